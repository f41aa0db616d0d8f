/- what the walker does: nodes counted, the greatest depth -/
import Derived.Test.YtgimppnhjfjeaaaInv
open Go Go.Eng
namespace Go.Proofs
set_option linter.unusedVariables false
set_option linter.unusedSimpArgs false
set_option maxRecDepth 100000
def BIG : Nat := 4611686018427387904
def WOk (f : Nat) (arg : List Row → List AV) (ans : AV) (ty : Nat) (N : Nat) : Prop := ∀ l : List Row, cnts l ≤ N → (∀ r ∈ l, Has Pg ty r) → ∀ n d m : Nat, n + cnts l < BIG → d + cnts l < BIG →
  evp f (arg l) .none [[vI n, vI d, vI m]] = some ⟨.ret ans, .none, [[vI (n + cnts l : Nat), vI d, vI (wms m d l : Nat)]]⟩
structure WAll (N : Nat) : Prop where
  tys : WOk f_tree_walker_tys (fun l => [.ptr 0 0, .slice 4 (avss l) .no]) (.ptr 0 0) y_api_Ty N
  pats : WOk f_tree_walker_pats (fun l => [.ptr 0 0, .slice 5 (avss l) .no]) (.ptr 0 0) y_api_Pat N
  exps : WOk f_tree_walker_exps (fun l => [.ptr 0 0, .slice 8 (avss l) .no]) (.ptr 0 0) y_api_Exp N
  cons : WOk f_tree_walker_cons (fun l => [.ptr 0 0, .slice 2 (avss l) .no]) (.ptr 0 0) y_api_Con N
  decs : WOk f_tree_walker_decs (fun l => [.ptr 0 0, .slice 9 (avss l) .no]) (.ptr 0 0) y_api_Dec N
  mods : WOk f_tree_walker_mods (fun l => [.ptr 0 0, .slice 5 (avss l) .no]) (.ptr 0 0) y_api_Mod N
  sigs : WOk f_tree_walker_sigs (fun l => [.ptr 0 0, .slice 5 (avss l) .no]) (.ptr 0 0) y_api_Sig N
  specs : WOk f_tree_each_api_Spec (fun l => [.slice 6 (avss l) .no, (.func (.func f_tree_walker_sigs_1_1_1) [] [(.ref [(.ptr 0 0)])])]) (.tuple []) y_api_Spec N
@[irreducible] noncomputable def K_tys (rows : List (List AV)) (n d m : Int) : KT := kt0 f_tree_walker_tys [.ptr 0 0, .slice 4 rows .no] [[vI n, vI d, vI m]]
@[irreducible] noncomputable def K_pats (rows : List (List AV)) (n d m : Int) : KT := kt0 f_tree_walker_pats [.ptr 0 0, .slice 5 rows .no] [[vI n, vI d, vI m]]
@[irreducible] noncomputable def K_exps (rows : List (List AV)) (n d m : Int) : KT := kt0 f_tree_walker_exps [.ptr 0 0, .slice 8 rows .no] [[vI n, vI d, vI m]]
@[irreducible] noncomputable def K_cons (rows : List (List AV)) (n d m : Int) : KT := kt0 f_tree_walker_cons [.ptr 0 0, .slice 2 rows .no] [[vI n, vI d, vI m]]
@[irreducible] noncomputable def K_decs (rows : List (List AV)) (n d m : Int) : KT := kt0 f_tree_walker_decs [.ptr 0 0, .slice 9 rows .no] [[vI n, vI d, vI m]]
@[irreducible] noncomputable def K_mods (rows : List (List AV)) (n d m : Int) : KT := kt0 f_tree_walker_mods [.ptr 0 0, .slice 5 rows .no] [[vI n, vI d, vI m]]
@[irreducible] noncomputable def K_sigs (rows : List (List AV)) (n d m : Int) : KT := kt0 f_tree_walker_sigs [.ptr 0 0, .slice 5 rows .no] [[vI n, vI d, vI m]]
@[irreducible] noncomputable def K_specs (rows : List (List AV)) (n d m : Int) : KT := kt0 f_tree_each_api_Spec [.slice 6 rows .no, (.func (.func f_tree_walker_sigs_1_1_1) [] [(.ref [(.ptr 0 0)])])] [[vI n, vI d, vI m]]
@[irreducible] noncomputable def KR_tys (rows : List
  (List
    AV)) (n : Int) (d : Int) (m : Int) (n' : Int) (d' : Int) (m' : Int) (i : Nat) : KT := KT.round Pg cfg0 rs0 kc0 (K_tys rows n d m) { tmps := tm2 16 [(1, AV.func (Fn.func f_tree_walker_tys_1) [] [AV.ref [AV.ptr 0 0]]), (6, AV.slice 4 rows Own.no), (7, vI (↑rows.length : Int)), (8, vI (↑i : Int))], lh := lm2 16 [], g := { H := [[vI n', vI d', vI m']], defers := [], rm := RM.none, base := 1 } }
theorem KR_tys_eq (rows : List
  (List AV)) (n : Int) (d : Int) (m : Int) (n' : Int) (d' : Int) (m' : Int) (i : Nat) : KT.round Pg cfg0 rs0 kc0 (K_tys rows n d m) { tmps := tm2 16 [(1, AV.func (Fn.func f_tree_walker_tys_1) [] [AV.ref [AV.ptr 0 0]]), (6, AV.slice 4 rows Own.no), (7, vI (↑rows.length : Int)), (8, vI (↑i : Int))], lh := lm2 16 [], g := { H := [[vI n', vI d', vI m']], defers := [], rm := RM.none, base := 1 } } =
  (.branch (decide ((↑i : Int) < (↑rows.length : Int)))
 (.exI fun i1 =>
  (.exS fun s =>
   (.exR fun l =>
    (.exR fun l1 =>
     (.row (rows) ((↑i : Int)) [(vI (i1)), (vS (s)), (.slice 1 (l) .no), (.slice 4 (l1) .no)]
      (.exI fun i2 =>
       (.exI fun i3 =>
        (.exI fun i4 =>
         (.call f_tree_walker_tys [(.ptr 0 0), (.slice 4 (l1) .no)] .none [[(vI (IntKind.i64.wrap (n' + 1))), (vI (IntKind.i64.wrap (d' + 1))), (vI (if IntKind.i64.wrap (d' + 1) > m' then IntKind.i64.wrap (d' + 1) else m'))]] ⟨(.ret (.ptr 0 0)), .none, [[(vI (i2)), (vI (i3)), (vI (i4))]]⟩
          (.need true
           (.need true
            (.need true
             (.done ⟨tm2 16 [(1, (.func (.func f_tree_walker_tys_1) [] [(.ref [(.ptr 0 0)])])), (6, (.slice 4 (rows) .no)), (7, (vI ((↑rows.length : Int)))), (8, (vI (IntKind.i64.wrap ((↑i : Int) + 1))))], lm2 16 [], ⟨[[(vI (i2)), (vI (IntKind.i64.wrap (i3 - 1))), (vI (i4))]], [], .none, 1⟩⟩)))))))))))))
 (.out (.need true
  (.need true
   (.ret ⟨(.ret (.ptr 0 0)), .none, [[(vI (n')), (vI (d')), (vI (m'))]]⟩))))) := by kernel_rfl

@[irreducible] noncomputable def KR_pats (rows : List
  (List
    AV)) (n : Int) (d : Int) (m : Int) (n' : Int) (d' : Int) (m' : Int) (i : Nat) : KT := KT.round Pg cfg0 rs0 kc0 (K_pats rows n d m) { tmps := tm2 16 [(1, AV.func (Fn.func f_tree_walker_pats_1) [] [AV.ref [AV.ptr 0 0]]), (6, AV.slice 5 rows Own.no), (7, vI (↑rows.length : Int)), (8, vI (↑i : Int))], lh := lm2 16 [], g := { H := [[vI n', vI d', vI m']], defers := [], rm := RM.none, base := 1 } }
theorem KR_pats_eq (rows : List
  (List AV)) (n : Int) (d : Int) (m : Int) (n' : Int) (d' : Int) (m' : Int) (i : Nat) : KT.round Pg cfg0 rs0 kc0 (K_pats rows n d m) { tmps := tm2 16 [(1, AV.func (Fn.func f_tree_walker_pats_1) [] [AV.ref [AV.ptr 0 0]]), (6, AV.slice 5 rows Own.no), (7, vI (↑rows.length : Int)), (8, vI (↑i : Int))], lh := lm2 16 [], g := { H := [[vI n', vI d', vI m']], defers := [], rm := RM.none, base := 1 } } =
  (.branch (decide ((↑i : Int) < (↑rows.length : Int)))
 (.exI fun i1 =>
  (.exS fun s =>
   (.exR fun l =>
    (.exI fun i2 =>
     (.exR fun l1 =>
      (.row (rows) ((↑i : Int)) [(vI (i1)), (vS (s)), (.slice 1 (l) .no), (vI (i2)), (.slice 5 (l1) .no)]
       (.exI fun i3 =>
        (.exI fun i4 =>
         (.exI fun i5 =>
          (.call f_tree_walker_pats [(.ptr 0 0), (.slice 5 (l1) .no)] .none [[(vI (IntKind.i64.wrap (n' + 1))), (vI (IntKind.i64.wrap (d' + 1))), (vI (if IntKind.i64.wrap (d' + 1) > m' then IntKind.i64.wrap (d' + 1) else m'))]] ⟨(.ret (.ptr 0 0)), .none, [[(vI (i3)), (vI (i4)), (vI (i5))]]⟩
           (.need true
            (.need true
             (.need true
              (.done ⟨tm2 16 [(1, (.func (.func f_tree_walker_pats_1) [] [(.ref [(.ptr 0 0)])])), (6, (.slice 5 (rows) .no)), (7, (vI ((↑rows.length : Int)))), (8, (vI (IntKind.i64.wrap ((↑i : Int) + 1))))], lm2 16 [], ⟨[[(vI (i3)), (vI (IntKind.i64.wrap (i4 - 1))), (vI (i5))]], [], .none, 1⟩⟩))))))))))))))
 (.out (.need true
  (.need true
   (.ret ⟨(.ret (.ptr 0 0)), .none, [[(vI (n')), (vI (d')), (vI (m'))]]⟩))))) := by kernel_rfl

@[irreducible] noncomputable def KR_exps (rows : List
  (List
    AV)) (n : Int) (d : Int) (m : Int) (n' : Int) (d' : Int) (m' : Int) (i : Nat) : KT := KT.round Pg cfg0 rs0 kc0 (K_exps rows n d m) { tmps := tm2 16 [(1, AV.func (Fn.func f_tree_walker_exps_1) [] [AV.ref [AV.ptr 0 0]]), (6, AV.slice 8 rows Own.no), (7, vI (↑rows.length : Int)), (8, vI (↑i : Int))], lh := lm2 16 [], g := { H := [[vI n', vI d', vI m']], defers := [], rm := RM.none, base := 1 } }
theorem KR_exps_eq (rows : List
  (List AV)) (n : Int) (d : Int) (m : Int) (n' : Int) (d' : Int) (m' : Int) (i : Nat) : KT.round Pg cfg0 rs0 kc0 (K_exps rows n d m) { tmps := tm2 16 [(1, AV.func (Fn.func f_tree_walker_exps_1) [] [AV.ref [AV.ptr 0 0]]), (6, AV.slice 8 rows Own.no), (7, vI (↑rows.length : Int)), (8, vI (↑i : Int))], lh := lm2 16 [], g := { H := [[vI n', vI d', vI m']], defers := [], rm := RM.none, base := 1 } } =
  (.branch (decide ((↑i : Int) < (↑rows.length : Int)))
 (.exI fun i1 =>
  (.exI fun i2 =>
   (.exI fun i3 =>
    (.exR fun l =>
     (.exR fun l1 =>
      (.exR fun l2 =>
       (.exR fun l3 =>
        (.exR fun l4 =>
         (.row (rows) ((↑i : Int)) [(vI (i1)), (vI (i2)), (vI (i3)), (.slice 1 (l) .no), (.slice 5 (l1) .no), (.slice 8 (l2) .no), (.slice 9 (l3) .no), (.slice 4 (l4) .no)]
          (.exI fun i4 =>
           (.exI fun i5 =>
            (.exI fun i6 =>
             (.call f_tree_walker_pats [(.ptr 0 0), (.slice 5 (l1) .no)] .none [[(vI (IntKind.i64.wrap (n' + 1))), (vI (IntKind.i64.wrap (d' + 1))), (vI (if IntKind.i64.wrap (d' + 1) > m' then IntKind.i64.wrap (d' + 1) else m'))]] ⟨(.ret (.ptr 0 0)), .none, [[(vI (i4)), (vI (i5)), (vI (i6))]]⟩
              (.exI fun i7 =>
               (.exI fun i8 =>
                (.exI fun i9 =>
                 (.call f_tree_walker_exps [(.ptr 0 0), (.slice 8 (l2) .no)] .none [[(vI (i4)), (vI (i5)), (vI (i6))]] ⟨(.ret (.ptr 0 0)), .none, [[(vI (i7)), (vI (i8)), (vI (i9))]]⟩
                  (.exI fun i10 =>
                   (.exI fun i11 =>
                    (.exI fun i12 =>
                     (.call f_tree_walker_decs [(.ptr 0 0), (.slice 9 (l3) .no)] .none [[(vI (i7)), (vI (i8)), (vI (i9))]] ⟨(.ret (.ptr 0 0)), .none, [[(vI (i10)), (vI (i11)), (vI (i12))]]⟩
                      (.exI fun i13 =>
                       (.exI fun i14 =>
                        (.exI fun i15 =>
                         (.call f_tree_walker_tys [(.ptr 0 0), (.slice 4 (l4) .no)] .none [[(vI (i10)), (vI (i11)), (vI (i12))]] ⟨(.ret (.ptr 0 0)), .none, [[(vI (i13)), (vI (i14)), (vI (i15))]]⟩
                          (.need true
                           (.need true
                            (.need true
                             (.done ⟨tm2 16 [(1, (.func (.func f_tree_walker_exps_1) [] [(.ref [(.ptr 0 0)])])), (6, (.slice 8 (rows) .no)), (7, (vI ((↑rows.length : Int)))), (8, (vI (IntKind.i64.wrap ((↑i : Int) + 1))))], lm2 16 [], ⟨[[(vI (i13)), (vI (IntKind.i64.wrap (i14 - 1))), (vI (i15))]], [], .none, 1⟩⟩)))))))))))))))))))))))))))))
 (.out (.need true
  (.need true
   (.ret ⟨(.ret (.ptr 0 0)), .none, [[(vI (n')), (vI (d')), (vI (m'))]]⟩))))) := by kernel_rfl

@[irreducible] noncomputable def KR_cons (rows : List
  (List
    AV)) (n : Int) (d : Int) (m : Int) (n' : Int) (d' : Int) (m' : Int) (i : Nat) : KT := KT.round Pg cfg0 rs0 kc0 (K_cons rows n d m) { tmps := tm2 16 [(1, AV.func (Fn.func f_tree_walker_cons_1) [] [AV.ref [AV.ptr 0 0]]), (6, AV.slice 2 rows Own.no), (7, vI (↑rows.length : Int)), (8, vI (↑i : Int))], lh := lm2 16 [], g := { H := [[vI n', vI d', vI m']], defers := [], rm := RM.none, base := 1 } }
theorem KR_cons_eq (rows : List
  (List AV)) (n : Int) (d : Int) (m : Int) (n' : Int) (d' : Int) (m' : Int) (i : Nat) : KT.round Pg cfg0 rs0 kc0 (K_cons rows n d m) { tmps := tm2 16 [(1, AV.func (Fn.func f_tree_walker_cons_1) [] [AV.ref [AV.ptr 0 0]]), (6, AV.slice 2 rows Own.no), (7, vI (↑rows.length : Int)), (8, vI (↑i : Int))], lh := lm2 16 [], g := { H := [[vI n', vI d', vI m']], defers := [], rm := RM.none, base := 1 } } =
  (.branch (decide ((↑i : Int) < (↑rows.length : Int)))
 (.exS fun s =>
  (.exR fun l =>
   (.row (rows) ((↑i : Int)) [(vS (s)), (.slice 4 (l) .no)]
    (.exI fun i1 =>
     (.exI fun i2 =>
      (.exI fun i3 =>
       (.call f_tree_walker_tys [(.ptr 0 0), (.slice 4 (l) .no)] .none [[(vI (IntKind.i64.wrap (n' + 1))), (vI (IntKind.i64.wrap (d' + 1))), (vI (if IntKind.i64.wrap (d' + 1) > m' then IntKind.i64.wrap (d' + 1) else m'))]] ⟨(.ret (.ptr 0 0)), .none, [[(vI (i1)), (vI (i2)), (vI (i3))]]⟩
        (.need true
         (.need true
          (.need true
           (.done ⟨tm2 16 [(1, (.func (.func f_tree_walker_cons_1) [] [(.ref [(.ptr 0 0)])])), (6, (.slice 2 (rows) .no)), (7, (vI ((↑rows.length : Int)))), (8, (vI (IntKind.i64.wrap ((↑i : Int) + 1))))], lm2 16 [], ⟨[[(vI (i1)), (vI (IntKind.i64.wrap (i2 - 1))), (vI (i3))]], [], .none, 1⟩⟩)))))))))))
 (.out (.need true
  (.need true
   (.ret ⟨(.ret (.ptr 0 0)), .none, [[(vI (n')), (vI (d')), (vI (m'))]]⟩))))) := by kernel_rfl

@[irreducible] noncomputable def KR_decs (rows : List
  (List
    AV)) (n : Int) (d : Int) (m : Int) (n' : Int) (d' : Int) (m' : Int) (i : Nat) : KT := KT.round Pg cfg0 rs0 kc0 (K_decs rows n d m) { tmps := tm2 16 [(1, AV.func (Fn.func f_tree_walker_decs_1) [] [AV.ref [AV.ptr 0 0]]), (6, AV.slice 9 rows Own.no), (7, vI (↑rows.length : Int)), (8, vI (↑i : Int))], lh := lm2 16 [], g := { H := [[vI n', vI d', vI m']], defers := [], rm := RM.none, base := 1 } }
theorem KR_decs_eq (rows : List
  (List AV)) (n : Int) (d : Int) (m : Int) (n' : Int) (d' : Int) (m' : Int) (i : Nat) : KT.round Pg cfg0 rs0 kc0 (K_decs rows n d m) { tmps := tm2 16 [(1, AV.func (Fn.func f_tree_walker_decs_1) [] [AV.ref [AV.ptr 0 0]]), (6, AV.slice 9 rows Own.no), (7, vI (↑rows.length : Int)), (8, vI (↑i : Int))], lh := lm2 16 [], g := { H := [[vI n', vI d', vI m']], defers := [], rm := RM.none, base := 1 } } =
  (.branch (decide ((↑i : Int) < (↑rows.length : Int)))
 (.exI fun i1 =>
  (.exI fun i2 =>
   (.exS fun s =>
    (.exR fun l =>
     (.exR fun l1 =>
      (.exR fun l2 =>
       (.exR fun l3 =>
        (.exR fun l4 =>
         (.exR fun l5 =>
          (.row (rows) ((↑i : Int)) [(vI (i1)), (vI (i2)), (vS (s)), (.slice 1 (l) .no), (.slice 4 (l1) .no), (.slice 8 (l2) .no), (.slice 2 (l3) .no), (.slice 5 (l4) .no), (.slice 5 (l5) .no)]
           (.exI fun i3 =>
            (.exI fun i4 =>
             (.exI fun i5 =>
              (.call f_tree_walker_tys [(.ptr 0 0), (.slice 4 (l1) .no)] .none [[(vI (IntKind.i64.wrap (n' + 1))), (vI (IntKind.i64.wrap (d' + 1))), (vI (if IntKind.i64.wrap (d' + 1) > m' then IntKind.i64.wrap (d' + 1) else m'))]] ⟨(.ret (.ptr 0 0)), .none, [[(vI (i3)), (vI (i4)), (vI (i5))]]⟩
               (.exI fun i6 =>
                (.exI fun i7 =>
                 (.exI fun i8 =>
                  (.call f_tree_walker_exps [(.ptr 0 0), (.slice 8 (l2) .no)] .none [[(vI (i3)), (vI (i4)), (vI (i5))]] ⟨(.ret (.ptr 0 0)), .none, [[(vI (i6)), (vI (i7)), (vI (i8))]]⟩
                   (.exI fun i9 =>
                    (.exI fun i10 =>
                     (.exI fun i11 =>
                      (.call f_tree_walker_cons [(.ptr 0 0), (.slice 2 (l3) .no)] .none [[(vI (i6)), (vI (i7)), (vI (i8))]] ⟨(.ret (.ptr 0 0)), .none, [[(vI (i9)), (vI (i10)), (vI (i11))]]⟩
                       (.exI fun i12 =>
                        (.exI fun i13 =>
                         (.exI fun i14 =>
                          (.call f_tree_walker_mods [(.ptr 0 0), (.slice 5 (l4) .no)] .none [[(vI (i9)), (vI (i10)), (vI (i11))]] ⟨(.ret (.ptr 0 0)), .none, [[(vI (i12)), (vI (i13)), (vI (i14))]]⟩
                           (.exI fun i15 =>
                            (.exI fun i16 =>
                             (.exI fun i17 =>
                              (.call f_tree_walker_sigs [(.ptr 0 0), (.slice 5 (l5) .no)] .none [[(vI (i12)), (vI (i13)), (vI (i14))]] ⟨(.ret (.ptr 0 0)), .none, [[(vI (i15)), (vI (i16)), (vI (i17))]]⟩
                               (.need true
                                (.need true
                                 (.need true
                                  (.done ⟨tm2 16 [(1, (.func (.func f_tree_walker_decs_1) [] [(.ref [(.ptr 0 0)])])), (6, (.slice 9 (rows) .no)), (7, (vI ((↑rows.length : Int)))), (8, (vI (IntKind.i64.wrap ((↑i : Int) + 1))))], lm2 16 [], ⟨[[(vI (i15)), (vI (IntKind.i64.wrap (i16 - 1))), (vI (i17))]], [], .none, 1⟩⟩))))))))))))))))))))))))))))))))))
 (.out (.need true
  (.need true
   (.ret ⟨(.ret (.ptr 0 0)), .none, [[(vI (n')), (vI (d')), (vI (m'))]]⟩))))) := by kernel_rfl

@[irreducible] noncomputable def KR_mods (rows : List
  (List
    AV)) (n : Int) (d : Int) (m : Int) (n' : Int) (d' : Int) (m' : Int) (i : Nat) : KT := KT.round Pg cfg0 rs0 kc0 (K_mods rows n d m) { tmps := tm2 16 [(1, AV.func (Fn.func f_tree_walker_mods_1) [] [AV.ref [AV.ptr 0 0]]), (6, AV.slice 5 rows Own.no), (7, vI (↑rows.length : Int)), (8, vI (↑i : Int))], lh := lm2 16 [], g := { H := [[vI n', vI d', vI m']], defers := [], rm := RM.none, base := 1 } }
theorem KR_mods_eq (rows : List
  (List AV)) (n : Int) (d : Int) (m : Int) (n' : Int) (d' : Int) (m' : Int) (i : Nat) : KT.round Pg cfg0 rs0 kc0 (K_mods rows n d m) { tmps := tm2 16 [(1, AV.func (Fn.func f_tree_walker_mods_1) [] [AV.ref [AV.ptr 0 0]]), (6, AV.slice 5 rows Own.no), (7, vI (↑rows.length : Int)), (8, vI (↑i : Int))], lh := lm2 16 [], g := { H := [[vI n', vI d', vI m']], defers := [], rm := RM.none, base := 1 } } =
  (.branch (decide ((↑i : Int) < (↑rows.length : Int)))
 (.exI fun i1 =>
  (.exR fun l =>
   (.exR fun l1 =>
    (.exR fun l2 =>
     (.exR fun l3 =>
      (.row (rows) ((↑i : Int)) [(vI (i1)), (.slice 1 (l) .no), (.slice 9 (l1) .no), (.slice 5 (l2) .no), (.slice 5 (l3) .no)]
       (.exI fun i2 =>
        (.exI fun i3 =>
         (.exI fun i4 =>
          (.call f_tree_walker_decs [(.ptr 0 0), (.slice 9 (l1) .no)] .none [[(vI (IntKind.i64.wrap (n' + 1))), (vI (IntKind.i64.wrap (d' + 1))), (vI (if IntKind.i64.wrap (d' + 1) > m' then IntKind.i64.wrap (d' + 1) else m'))]] ⟨(.ret (.ptr 0 0)), .none, [[(vI (i2)), (vI (i3)), (vI (i4))]]⟩
           (.exI fun i5 =>
            (.exI fun i6 =>
             (.exI fun i7 =>
              (.call f_tree_walker_mods [(.ptr 0 0), (.slice 5 (l2) .no)] .none [[(vI (i2)), (vI (i3)), (vI (i4))]] ⟨(.ret (.ptr 0 0)), .none, [[(vI (i5)), (vI (i6)), (vI (i7))]]⟩
               (.exI fun i8 =>
                (.exI fun i9 =>
                 (.exI fun i10 =>
                  (.call f_tree_walker_sigs [(.ptr 0 0), (.slice 5 (l3) .no)] .none [[(vI (i5)), (vI (i6)), (vI (i7))]] ⟨(.ret (.ptr 0 0)), .none, [[(vI (i8)), (vI (i9)), (vI (i10))]]⟩
                   (.need true
                    (.need true
                     (.need true
                      (.done ⟨tm2 16 [(1, (.func (.func f_tree_walker_mods_1) [] [(.ref [(.ptr 0 0)])])), (6, (.slice 5 (rows) .no)), (7, (vI ((↑rows.length : Int)))), (8, (vI (IntKind.i64.wrap ((↑i : Int) + 1))))], lm2 16 [], ⟨[[(vI (i8)), (vI (IntKind.i64.wrap (i9 - 1))), (vI (i10))]], [], .none, 1⟩⟩))))))))))))))))))))))
 (.out (.need true
  (.need true
   (.ret ⟨(.ret (.ptr 0 0)), .none, [[(vI (n')), (vI (d')), (vI (m'))]]⟩))))) := by kernel_rfl

@[irreducible] noncomputable def KR_sigs (rows : List
  (List
    AV)) (n : Int) (d : Int) (m : Int) (n' : Int) (d' : Int) (m' : Int) (i : Nat) : KT := KT.round Pg cfg0 rs0 kc0 (K_sigs rows n d m) { tmps := tm2 16 [(1, AV.func (Fn.func f_tree_walker_sigs_1) [] [AV.ref [AV.ptr 0 0]]), (6, AV.slice 5 rows Own.no), (7, vI (↑rows.length : Int)), (8, vI (↑i : Int))], lh := lm2 16 [], g := { H := [[vI n', vI d', vI m']], defers := [], rm := RM.none, base := 1 } }
theorem KR_sigs_eq (rows : List
  (List AV)) (n : Int) (d : Int) (m : Int) (n' : Int) (d' : Int) (m' : Int) (i : Nat) : KT.round Pg cfg0 rs0 kc0 (K_sigs rows n d m) { tmps := tm2 16 [(1, AV.func (Fn.func f_tree_walker_sigs_1) [] [AV.ref [AV.ptr 0 0]]), (6, AV.slice 5 rows Own.no), (7, vI (↑rows.length : Int)), (8, vI (↑i : Int))], lh := lm2 16 [], g := { H := [[vI n', vI d', vI m']], defers := [], rm := RM.none, base := 1 } } =
  (.branch (decide ((↑i : Int) < (↑rows.length : Int)))
 (.exI fun i1 =>
  (.exR fun l =>
   (.exR fun l1 =>
    (.exR fun l2 =>
     (.exR fun l3 =>
      (.row (rows) ((↑i : Int)) [(vI (i1)), (.slice 1 (l) .no), (.slice 6 (l1) .no), (.slice 5 (l2) .no), (.slice 4 (l3) .no)]
       (.exI fun i2 =>
        (.exI fun i3 =>
         (.exI fun i4 =>
          (.call f_tree_each_api_Spec [(.slice 6 (l1) .no), (.func (.func f_tree_walker_sigs_1_1_1) [] [(.ref [(.ptr 0 0)])])] .none [[(vI (IntKind.i64.wrap (n' + 1))), (vI (IntKind.i64.wrap (d' + 1))), (vI (if IntKind.i64.wrap (d' + 1) > m' then IntKind.i64.wrap (d' + 1) else m'))]] ⟨(.ret (.tuple [])), .none, [[(vI (i2)), (vI (i3)), (vI (i4))]]⟩
           (.exI fun i5 =>
            (.exI fun i6 =>
             (.exI fun i7 =>
              (.call f_tree_walker_sigs [(.ptr 0 0), (.slice 5 (l2) .no)] .none [[(vI (i2)), (vI (i3)), (vI (i4))]] ⟨(.ret (.ptr 0 0)), .none, [[(vI (i5)), (vI (i6)), (vI (i7))]]⟩
               (.exI fun i8 =>
                (.exI fun i9 =>
                 (.exI fun i10 =>
                  (.call f_tree_walker_tys [(.ptr 0 0), (.slice 4 (l3) .no)] .none [[(vI (i5)), (vI (i6)), (vI (i7))]] ⟨(.ret (.ptr 0 0)), .none, [[(vI (i8)), (vI (i9)), (vI (i10))]]⟩
                   (.need true
                    (.need true
                     (.need true
                      (.done ⟨tm2 16 [(1, (.func (.func f_tree_walker_sigs_1) [] [(.ref [(.ptr 0 0)])])), (6, (.slice 5 (rows) .no)), (7, (vI ((↑rows.length : Int)))), (8, (vI (IntKind.i64.wrap ((↑i : Int) + 1))))], lm2 16 [], ⟨[[(vI (i8)), (vI (IntKind.i64.wrap (i9 - 1))), (vI (i10))]], [], .none, 1⟩⟩))))))))))))))))))))))
 (.out (.need true
  (.need true
   (.ret ⟨(.ret (.ptr 0 0)), .none, [[(vI (n')), (vI (d')), (vI (m'))]]⟩))))) := by kernel_rfl

@[irreducible] noncomputable def KR_specs (rows : List
  (List
    AV)) (n : Int) (d : Int) (m : Int) (n' : Int) (d' : Int) (m' : Int) (i : Nat) : KT := KT.round Pg cfg0 rs0 kc0 (K_specs rows n d m)
  { tmps := tm2 16 [(1, AV.func (Fn.func f_tree_walker_sigs_1_1_1) [] [AV.ref [AV.ptr 0 0]]), (6, AV.slice 6 rows Own.no), (7, vI (↑rows.length : Int)), (8, vI (↑i : Int))], lh := lm2 16 [], g := { H := [[vI n', vI d', vI m']], defers := [], rm := RM.none, base := 1 } }
theorem KR_specs_eq (rows : List
  (List
    AV)) (n : Int) (d : Int) (m : Int) (n' : Int) (d' : Int) (m' : Int) (i : Nat) : KT.round Pg cfg0 rs0 kc0 (K_specs rows n d m) { tmps := tm2 16 [(1, AV.func (Fn.func f_tree_walker_sigs_1_1_1) [] [AV.ref [AV.ptr 0 0]]), (6, AV.slice 6 rows Own.no), (7, vI (↑rows.length : Int)), (8, vI (↑i : Int))], lh := lm2 16 [], g := { H := [[vI n', vI d', vI m']], defers := [], rm := RM.none, base := 1 } } =
  (.branch (decide ((↑i : Int) < (↑rows.length : Int)))
 (.exI fun i1 =>
  (.exI fun i2 =>
   (.exS fun s =>
    (.exR fun l =>
     (.exR fun l1 =>
      (.exR fun l2 =>
       (.row (rows) ((↑i : Int)) [(vI (i1)), (vI (i2)), (vS (s)), (.slice 4 (l) .no), (.slice 2 (l1) .no), (.slice 5 (l2) .no)]
        (.exI fun i3 =>
         (.exI fun i4 =>
          (.exI fun i5 =>
           (.call f_tree_walker_tys [(.ptr 0 0), (.slice 4 (l) .no)] .none [[(vI (IntKind.i64.wrap (n' + 1))), (vI (IntKind.i64.wrap (d' + 1))), (vI (if IntKind.i64.wrap (d' + 1) > m' then IntKind.i64.wrap (d' + 1) else m'))]] ⟨(.ret (.ptr 0 0)), .none, [[(vI (i3)), (vI (i4)), (vI (i5))]]⟩
            (.exI fun i6 =>
             (.exI fun i7 =>
              (.exI fun i8 =>
               (.call f_tree_walker_cons [(.ptr 0 0), (.slice 2 (l1) .no)] .none [[(vI (i3)), (vI (i4)), (vI (i5))]] ⟨(.ret (.ptr 0 0)), .none, [[(vI (i6)), (vI (i7)), (vI (i8))]]⟩
                (.exI fun i9 =>
                 (.exI fun i10 =>
                  (.exI fun i11 =>
                   (.call f_tree_walker_sigs [(.ptr 0 0), (.slice 5 (l2) .no)] .none [[(vI (i6)), (vI (i7)), (vI (i8))]] ⟨(.ret (.ptr 0 0)), .none, [[(vI (i9)), (vI (i10)), (vI (i11))]]⟩
                    (.need true
                     (.need true
                      (.need true
                       (.done ⟨tm2 16 [(1, (.func (.func f_tree_walker_sigs_1_1_1) [] [(.ref [(.ptr 0 0)])])), (6, (.slice 6 (rows) .no)), (7, (vI ((↑rows.length : Int)))), (8, (vI (IntKind.i64.wrap ((↑i : Int) + 1))))], lm2 16 [], ⟨[[(vI (i9)), (vI (IntKind.i64.wrap (i10 - 1))), (vI (i11))]], [], .none, 1⟩⟩)))))))))))))))))))))))
 (.out (.need true
  (.ret ⟨(.ret (.tuple [])), .none, [[(vI (n')), (vI (d')), (vI (m'))]]⟩)))) := by kernel_rfl


theorem K_tys_ev {rows : List (List AV)} {n d m : Int} {r : CRes} (h : (K_tys rows n d m).wp Pg cfg0 evp [] (fun x => x = r)) : evp f_tree_walker_tys [.ptr 0 0, .slice 4 rows .no] .none [[vI n, vI d, vI m]] = some r := by
  delta K_tys at h
  exact kt0_ev h
theorem K_pats_ev {rows : List (List AV)} {n d m : Int} {r : CRes} (h : (K_pats rows n d m).wp Pg cfg0 evp [] (fun x => x = r)) : evp f_tree_walker_pats [.ptr 0 0, .slice 5 rows .no] .none [[vI n, vI d, vI m]] = some r := by
  delta K_pats at h
  exact kt0_ev h
theorem K_exps_ev {rows : List (List AV)} {n d m : Int} {r : CRes} (h : (K_exps rows n d m).wp Pg cfg0 evp [] (fun x => x = r)) : evp f_tree_walker_exps [.ptr 0 0, .slice 8 rows .no] .none [[vI n, vI d, vI m]] = some r := by
  delta K_exps at h
  exact kt0_ev h
theorem K_cons_ev {rows : List (List AV)} {n d m : Int} {r : CRes} (h : (K_cons rows n d m).wp Pg cfg0 evp [] (fun x => x = r)) : evp f_tree_walker_cons [.ptr 0 0, .slice 2 rows .no] .none [[vI n, vI d, vI m]] = some r := by
  delta K_cons at h
  exact kt0_ev h
theorem K_decs_ev {rows : List (List AV)} {n d m : Int} {r : CRes} (h : (K_decs rows n d m).wp Pg cfg0 evp [] (fun x => x = r)) : evp f_tree_walker_decs [.ptr 0 0, .slice 9 rows .no] .none [[vI n, vI d, vI m]] = some r := by
  delta K_decs at h
  exact kt0_ev h
theorem K_mods_ev {rows : List (List AV)} {n d m : Int} {r : CRes} (h : (K_mods rows n d m).wp Pg cfg0 evp [] (fun x => x = r)) : evp f_tree_walker_mods [.ptr 0 0, .slice 5 rows .no] .none [[vI n, vI d, vI m]] = some r := by
  delta K_mods at h
  exact kt0_ev h
theorem K_sigs_ev {rows : List (List AV)} {n d m : Int} {r : CRes} (h : (K_sigs rows n d m).wp Pg cfg0 evp [] (fun x => x = r)) : evp f_tree_walker_sigs [.ptr 0 0, .slice 5 rows .no] .none [[vI n, vI d, vI m]] = some r := by
  delta K_sigs at h
  exact kt0_ev h
theorem K_specs_ev {rows : List (List AV)} {n d m : Int} {r : CRes} (h : (K_specs rows n d m).wp Pg cfg0 evp [] (fun x => x = r)) : evp f_tree_each_api_Spec [.slice 6 rows .no, (.func (.func f_tree_walker_sigs_1_1_1) [] [(.ref [(.ptr 0 0)])])] .none [[vI n, vI d, vI m]] = some r := by
  delta K_specs at h
  exact kt0_ev h
theorem cntR_Ty (k : Int) (n : ByteArray) (p : List Row) (a : List Row) : cntR [.int .i64 k, .str n, .rows 1 p, .rows 4 a] = cnts a := by simp [cntR, cntC]
theorem wmR_Ty (k : Int) (n : ByteArray) (p : List Row) (a : List Row) (m0 d0 : Nat) : wmR m0 d0 [.int .i64 k, .str n, .rows 1 p, .rows 4 a] = (wms m0 d0 a) := by simp [wmR, wmC]
theorem cntR_Pat (k : Int) (n : ByteArray) (p : List Row) (m : Int) (a : List Row) : cntR [.int .i64 k, .str n, .rows 1 p, .int .i64 m, .rows 5 a] = cnts a := by simp [cntR, cntC]
theorem wmR_Pat (k : Int) (n : ByteArray) (p : List Row) (m : Int) (a : List Row) (m0 d0 : Nat) : wmR m0 d0 [.int .i64 k, .str n, .rows 1 p, .int .i64 m, .rows 5 a] = (wms m0 d0 a) := by simp [wmR, wmC]
theorem cntR_Exp (k : Int) (o : Int) (m : Int) (p : List Row) (a : List Row) (b : List Row) (c : List Row) (d : List Row) : cntR [.int .i64 k, .int .i64 o, .int .i64 m, .rows 1 p, .rows 5 a, .rows 8 b, .rows 9 c, .rows 4 d] = cnts a + cnts b + cnts c + cnts d := by simp [cntR, cntC]; omega
theorem wmR_Exp (k : Int) (o : Int) (m : Int) (p : List Row) (a : List Row) (b : List Row) (c : List Row) (d : List Row) (m0 d0 : Nat) : wmR m0 d0 [.int .i64 k, .int .i64 o, .int .i64 m, .rows 1 p, .rows 5 a, .rows 8 b, .rows 9 c, .rows 4 d] = (wms (wms (wms (wms m0 d0 a) d0 b) d0 c) d0 d) := by simp [wmR, wmC]
theorem cntR_Con (n : ByteArray) (a : List Row) : cntR [.str n, .rows 4 a] = cnts a := by simp [cntR, cntC]
theorem wmR_Con (n : ByteArray) (a : List Row) (m0 d0 : Nat) : wmR m0 d0 [.str n, .rows 4 a] = (wms m0 d0 a) := by simp [wmR, wmC]
theorem cntR_Dec (k : Int) (o : Int) (n : ByteArray) (p : List Row) (a : List Row) (b : List Row) (c : List Row) (d : List Row) (e : List Row) : cntR [.int .i64 k, .int .i64 o, .str n, .rows 1 p, .rows 4 a, .rows 8 b, .rows 2 c, .rows 5 d, .rows 5 e] = cnts a + cnts b + cnts c + cnts d + cnts e := by simp [cntR, cntC]; omega
theorem wmR_Dec (k : Int) (o : Int) (n : ByteArray) (p : List Row) (a : List Row) (b : List Row) (c : List Row) (d : List Row) (e : List Row) (m0 d0 : Nat) : wmR m0 d0 [.int .i64 k, .int .i64 o, .str n, .rows 1 p, .rows 4 a, .rows 8 b, .rows 2 c, .rows 5 d, .rows 5 e] = (wms (wms (wms (wms (wms m0 d0 a) d0 b) d0 c) d0 d) d0 e) := by simp [wmR, wmC]
theorem cntR_Mod (k : Int) (p : List Row) (a : List Row) (b : List Row) (c : List Row) : cntR [.int .i64 k, .rows 1 p, .rows 9 a, .rows 5 b, .rows 5 c] = cnts a + cnts b + cnts c := by simp [cntR, cntC]; omega
theorem wmR_Mod (k : Int) (p : List Row) (a : List Row) (b : List Row) (c : List Row) (m0 d0 : Nat) : wmR m0 d0 [.int .i64 k, .rows 1 p, .rows 9 a, .rows 5 b, .rows 5 c] = (wms (wms (wms m0 d0 a) d0 b) d0 c) := by simp [wmR, wmC]
theorem cntR_Sig (k : Int) (p : List Row) (a : List Row) (b : List Row) (c : List Row) : cntR [.int .i64 k, .rows 1 p, .rows 6 a, .rows 5 b, .rows 4 c] = cnts a + cnts b + cnts c := by simp [cntR, cntC]; omega
theorem wmR_Sig (k : Int) (p : List Row) (a : List Row) (b : List Row) (c : List Row) (m0 d0 : Nat) : wmR m0 d0 [.int .i64 k, .rows 1 p, .rows 6 a, .rows 5 b, .rows 4 c] = (wms (wms (wms m0 d0 a) d0 b) d0 c) := by simp [wmR, wmC]
theorem cntR_Spec (k : Int) (o : Int) (n : ByteArray) (a : List Row) (b : List Row) (c : List Row) : cntR [.int .i64 k, .int .i64 o, .str n, .rows 4 a, .rows 2 b, .rows 5 c] = cnts a + cnts b + cnts c := by simp [cntR, cntC]; omega
theorem wmR_Spec (k : Int) (o : Int) (n : ByteArray) (a : List Row) (b : List Row) (c : List Row) (m0 d0 : Nat) : wmR m0 d0 [.int .i64 k, .int .i64 o, .str n, .rows 4 a, .rows 2 b, .rows 5 c] = (wms (wms (wms m0 d0 a) d0 b) d0 c) := by simp [wmR, wmC]
theorem walk_tys {N : Nat} (ih : ∀ M, M < N → WAll M) : WOk f_tree_walker_tys (fun l => [.ptr 0 0, .slice 4 (avss l) .no]) (.ptr 0 0) y_api_Ty N := by
  intro l hl ht n d m hn hd
  unfold BIG at hn hd
  refine K_tys_ev ?_
  refine loop0 (t := K_tys (avss l) n d m) (fun i : Nat => ⟨tm2 16 [(1, (.func (.func f_tree_walker_tys_1) [] [(.ref [(.ptr 0 0)])])), (6, (.slice 4 (avss l) .no)), (7, (vI (avss l).length)), (8, (vI i))], lm2 16 [], ⟨[[vI (n + cnts (l.take i) : Nat), vI d, vI (wms m d (l.take i) : Nat)]], [], .none, 1⟩⟩) (fun i => i ≤ l.length) (fun i => l.length - i) 0 (by kernel_rfl) (Nat.zero_le _) ?_
  intro i hi
  refine wp_eq2 (KR_tys_eq (avss l) n d m (n + cnts (l.take i) : Nat) d (wms m d (l.take i) : Nat) i) ?_
  rw [avss_len]
  refine wp_if2 (fun h => ?_) (fun h => ?_)
  · have h := of_decide_eq_true h
    obtain ⟨r, hr⟩ : ∃ r, l[i]? = some r := ⟨_, List.getElem?_eq_getElem (by omega : i < l.length)⟩
    have hl2 := (List.getElem?_eq_some_iff.1 hr).1
    obtain ⟨xk, xn, xp, xa, rfl, t_xp, t_xa⟩ := inv_Ty (ht r (List.mem_of_getElem? hr))
    have e0 := cnts_le hr
    rw [cntR_Ty] at e0
    simp only [oneR] at e0
    have en : n + cnts (l.take (i + 1)) = n + cnts (l.take i) + 1 + cnts xa := by rw [cnts_take hr, cntR_Ty]; simp only [oneR]; omega
    have em := wms_take (m := m) (d := d) hr
    rw [wmR_Ty] at em
    rw [kw_succ (x := n + cnts (l.take i)) (by omega), kw_succ (x := d) (by omega), kmax, kw_succ (x := i) (by have := len_cnts fun r hr => ne_Ty (ht r hr); omega)]
    refine ⟨xk, xn, avss xp, avss xa, ⟨Int.natCast_nonneg i, avss_at hr⟩, ?_⟩
    refine ⟨_, _, _, (ih (cnts xa) (by omega)).tys xa (Nat.le_refl _) t_xa _ _ _ (by unfold BIG; omega) (by unfold BIG; omega), ?_⟩
    refine ⟨rfl, rfl, rfl, i + 1, ⟨by omega, by omega⟩, ?_⟩
    rw [kw_pred (x := d) (by omega), en, em]
  · have h := of_decide_eq_false h
    have hil : i = l.length := by omega
    subst hil
    rw [List.take_length] at *
    exact ⟨rfl, rfl, rfl⟩
theorem walk_pats {N : Nat} (ih : ∀ M, M < N → WAll M) : WOk f_tree_walker_pats (fun l => [.ptr 0 0, .slice 5 (avss l) .no]) (.ptr 0 0) y_api_Pat N := by
  intro l hl ht n d m hn hd
  unfold BIG at hn hd
  refine K_pats_ev ?_
  refine loop0 (t := K_pats (avss l) n d m) (fun i : Nat => ⟨tm2 16 [(1, (.func (.func f_tree_walker_pats_1) [] [(.ref [(.ptr 0 0)])])), (6, (.slice 5 (avss l) .no)), (7, (vI (avss l).length)), (8, (vI i))], lm2 16 [], ⟨[[vI (n + cnts (l.take i) : Nat), vI d, vI (wms m d (l.take i) : Nat)]], [], .none, 1⟩⟩) (fun i => i ≤ l.length) (fun i => l.length - i) 0 (by kernel_rfl) (Nat.zero_le _) ?_
  intro i hi
  refine wp_eq2 (KR_pats_eq (avss l) n d m (n + cnts (l.take i) : Nat) d (wms m d (l.take i) : Nat) i) ?_
  rw [avss_len]
  refine wp_if2 (fun h => ?_) (fun h => ?_)
  · have h := of_decide_eq_true h
    obtain ⟨r, hr⟩ : ∃ r, l[i]? = some r := ⟨_, List.getElem?_eq_getElem (by omega : i < l.length)⟩
    have hl2 := (List.getElem?_eq_some_iff.1 hr).1
    obtain ⟨xk, xn, xp, xm, xa, rfl, t_xp, t_xa⟩ := inv_Pat (ht r (List.mem_of_getElem? hr))
    have e0 := cnts_le hr
    rw [cntR_Pat] at e0
    simp only [oneR] at e0
    have en : n + cnts (l.take (i + 1)) = n + cnts (l.take i) + 1 + cnts xa := by rw [cnts_take hr, cntR_Pat]; simp only [oneR]; omega
    have em := wms_take (m := m) (d := d) hr
    rw [wmR_Pat] at em
    rw [kw_succ (x := n + cnts (l.take i)) (by omega), kw_succ (x := d) (by omega), kmax, kw_succ (x := i) (by have := len_cnts fun r hr => ne_Pat (ht r hr); omega)]
    refine ⟨xk, xn, avss xp, xm, avss xa, ⟨Int.natCast_nonneg i, avss_at hr⟩, ?_⟩
    refine ⟨_, _, _, (ih (cnts xa) (by omega)).pats xa (Nat.le_refl _) t_xa _ _ _ (by unfold BIG; omega) (by unfold BIG; omega), ?_⟩
    refine ⟨rfl, rfl, rfl, i + 1, ⟨by omega, by omega⟩, ?_⟩
    rw [kw_pred (x := d) (by omega), en, em]
  · have h := of_decide_eq_false h
    have hil : i = l.length := by omega
    subst hil
    rw [List.take_length] at *
    exact ⟨rfl, rfl, rfl⟩
theorem walk_exps {N : Nat} (ih : ∀ M, M < N → WAll M) : WOk f_tree_walker_exps (fun l => [.ptr 0 0, .slice 8 (avss l) .no]) (.ptr 0 0) y_api_Exp N := by
  intro l hl ht n d m hn hd
  unfold BIG at hn hd
  refine K_exps_ev ?_
  refine loop0 (t := K_exps (avss l) n d m) (fun i : Nat => ⟨tm2 16 [(1, (.func (.func f_tree_walker_exps_1) [] [(.ref [(.ptr 0 0)])])), (6, (.slice 8 (avss l) .no)), (7, (vI (avss l).length)), (8, (vI i))], lm2 16 [], ⟨[[vI (n + cnts (l.take i) : Nat), vI d, vI (wms m d (l.take i) : Nat)]], [], .none, 1⟩⟩) (fun i => i ≤ l.length) (fun i => l.length - i) 0 (by kernel_rfl) (Nat.zero_le _) ?_
  intro i hi
  refine wp_eq2 (KR_exps_eq (avss l) n d m (n + cnts (l.take i) : Nat) d (wms m d (l.take i) : Nat) i) ?_
  rw [avss_len]
  refine wp_if2 (fun h => ?_) (fun h => ?_)
  · have h := of_decide_eq_true h
    obtain ⟨r, hr⟩ : ∃ r, l[i]? = some r := ⟨_, List.getElem?_eq_getElem (by omega : i < l.length)⟩
    have hl2 := (List.getElem?_eq_some_iff.1 hr).1
    obtain ⟨xk, xo, xm, xp, xa, xb, xc, xd, rfl, t_xp, t_xa, t_xb, t_xc, t_xd⟩ := inv_Exp (ht r (List.mem_of_getElem? hr))
    have e0 := cnts_le hr
    rw [cntR_Exp] at e0
    simp only [oneR] at e0
    have en : n + cnts (l.take (i + 1)) = n + cnts (l.take i) + 1 + cnts xa + cnts xb + cnts xc + cnts xd := by rw [cnts_take hr, cntR_Exp]; simp only [oneR]; omega
    have em := wms_take (m := m) (d := d) hr
    rw [wmR_Exp] at em
    rw [kw_succ (x := n + cnts (l.take i)) (by omega), kw_succ (x := d) (by omega), kmax, kw_succ (x := i) (by have := len_cnts fun r hr => ne_Exp (ht r hr); omega)]
    refine ⟨xk, xo, xm, avss xp, avss xa, avss xb, avss xc, avss xd, ⟨Int.natCast_nonneg i, avss_at hr⟩, ?_⟩
    refine ⟨_, _, _, (ih (cnts xa) (by omega)).pats xa (Nat.le_refl _) t_xa _ _ _ (by unfold BIG; omega) (by unfold BIG; omega), ?_⟩
    refine ⟨_, _, _, (ih (cnts xb) (by omega)).exps xb (Nat.le_refl _) t_xb _ _ _ (by unfold BIG; omega) (by unfold BIG; omega), ?_⟩
    refine ⟨_, _, _, (ih (cnts xc) (by omega)).decs xc (Nat.le_refl _) t_xc _ _ _ (by unfold BIG; omega) (by unfold BIG; omega), ?_⟩
    refine ⟨_, _, _, (ih (cnts xd) (by omega)).tys xd (Nat.le_refl _) t_xd _ _ _ (by unfold BIG; omega) (by unfold BIG; omega), ?_⟩
    refine ⟨rfl, rfl, rfl, i + 1, ⟨by omega, by omega⟩, ?_⟩
    rw [kw_pred (x := d) (by omega), en, em]
  · have h := of_decide_eq_false h
    have hil : i = l.length := by omega
    subst hil
    rw [List.take_length] at *
    exact ⟨rfl, rfl, rfl⟩
theorem walk_cons {N : Nat} (ih : ∀ M, M < N → WAll M) : WOk f_tree_walker_cons (fun l => [.ptr 0 0, .slice 2 (avss l) .no]) (.ptr 0 0) y_api_Con N := by
  intro l hl ht n d m hn hd
  unfold BIG at hn hd
  refine K_cons_ev ?_
  refine loop0 (t := K_cons (avss l) n d m) (fun i : Nat => ⟨tm2 16 [(1, (.func (.func f_tree_walker_cons_1) [] [(.ref [(.ptr 0 0)])])), (6, (.slice 2 (avss l) .no)), (7, (vI (avss l).length)), (8, (vI i))], lm2 16 [], ⟨[[vI (n + cnts (l.take i) : Nat), vI d, vI (wms m d (l.take i) : Nat)]], [], .none, 1⟩⟩) (fun i => i ≤ l.length) (fun i => l.length - i) 0 (by kernel_rfl) (Nat.zero_le _) ?_
  intro i hi
  refine wp_eq2 (KR_cons_eq (avss l) n d m (n + cnts (l.take i) : Nat) d (wms m d (l.take i) : Nat) i) ?_
  rw [avss_len]
  refine wp_if2 (fun h => ?_) (fun h => ?_)
  · have h := of_decide_eq_true h
    obtain ⟨r, hr⟩ : ∃ r, l[i]? = some r := ⟨_, List.getElem?_eq_getElem (by omega : i < l.length)⟩
    have hl2 := (List.getElem?_eq_some_iff.1 hr).1
    obtain ⟨xn, xa, rfl, t_xa⟩ := inv_Con (ht r (List.mem_of_getElem? hr))
    have e0 := cnts_le hr
    rw [cntR_Con] at e0
    simp only [oneR] at e0
    have en : n + cnts (l.take (i + 1)) = n + cnts (l.take i) + 1 + cnts xa := by rw [cnts_take hr, cntR_Con]; simp only [oneR]; omega
    have em := wms_take (m := m) (d := d) hr
    rw [wmR_Con] at em
    rw [kw_succ (x := n + cnts (l.take i)) (by omega), kw_succ (x := d) (by omega), kmax, kw_succ (x := i) (by have := len_cnts fun r hr => ne_Con (ht r hr); omega)]
    refine ⟨xn, avss xa, ⟨Int.natCast_nonneg i, avss_at hr⟩, ?_⟩
    refine ⟨_, _, _, (ih (cnts xa) (by omega)).tys xa (Nat.le_refl _) t_xa _ _ _ (by unfold BIG; omega) (by unfold BIG; omega), ?_⟩
    refine ⟨rfl, rfl, rfl, i + 1, ⟨by omega, by omega⟩, ?_⟩
    rw [kw_pred (x := d) (by omega), en, em]
  · have h := of_decide_eq_false h
    have hil : i = l.length := by omega
    subst hil
    rw [List.take_length] at *
    exact ⟨rfl, rfl, rfl⟩
theorem walk_decs {N : Nat} (ih : ∀ M, M < N → WAll M) : WOk f_tree_walker_decs (fun l => [.ptr 0 0, .slice 9 (avss l) .no]) (.ptr 0 0) y_api_Dec N := by
  intro l hl ht n d m hn hd
  unfold BIG at hn hd
  refine K_decs_ev ?_
  refine loop0 (t := K_decs (avss l) n d m) (fun i : Nat => ⟨tm2 16 [(1, (.func (.func f_tree_walker_decs_1) [] [(.ref [(.ptr 0 0)])])), (6, (.slice 9 (avss l) .no)), (7, (vI (avss l).length)), (8, (vI i))], lm2 16 [], ⟨[[vI (n + cnts (l.take i) : Nat), vI d, vI (wms m d (l.take i) : Nat)]], [], .none, 1⟩⟩) (fun i => i ≤ l.length) (fun i => l.length - i) 0 (by kernel_rfl) (Nat.zero_le _) ?_
  intro i hi
  refine wp_eq2 (KR_decs_eq (avss l) n d m (n + cnts (l.take i) : Nat) d (wms m d (l.take i) : Nat) i) ?_
  rw [avss_len]
  refine wp_if2 (fun h => ?_) (fun h => ?_)
  · have h := of_decide_eq_true h
    obtain ⟨r, hr⟩ : ∃ r, l[i]? = some r := ⟨_, List.getElem?_eq_getElem (by omega : i < l.length)⟩
    have hl2 := (List.getElem?_eq_some_iff.1 hr).1
    obtain ⟨xk, xo, xn, xp, xa, xb, xc, xd, xe, rfl, t_xp, t_xa, t_xb, t_xc, t_xd, t_xe⟩ := inv_Dec (ht r (List.mem_of_getElem? hr))
    have e0 := cnts_le hr
    rw [cntR_Dec] at e0
    simp only [oneR] at e0
    have en : n + cnts (l.take (i + 1)) = n + cnts (l.take i) + 1 + cnts xa + cnts xb + cnts xc + cnts xd + cnts xe := by rw [cnts_take hr, cntR_Dec]; simp only [oneR]; omega
    have em := wms_take (m := m) (d := d) hr
    rw [wmR_Dec] at em
    rw [kw_succ (x := n + cnts (l.take i)) (by omega), kw_succ (x := d) (by omega), kmax, kw_succ (x := i) (by have := len_cnts fun r hr => ne_Dec (ht r hr); omega)]
    refine ⟨xk, xo, xn, avss xp, avss xa, avss xb, avss xc, avss xd, avss xe, ⟨Int.natCast_nonneg i, avss_at hr⟩, ?_⟩
    refine ⟨_, _, _, (ih (cnts xa) (by omega)).tys xa (Nat.le_refl _) t_xa _ _ _ (by unfold BIG; omega) (by unfold BIG; omega), ?_⟩
    refine ⟨_, _, _, (ih (cnts xb) (by omega)).exps xb (Nat.le_refl _) t_xb _ _ _ (by unfold BIG; omega) (by unfold BIG; omega), ?_⟩
    refine ⟨_, _, _, (ih (cnts xc) (by omega)).cons xc (Nat.le_refl _) t_xc _ _ _ (by unfold BIG; omega) (by unfold BIG; omega), ?_⟩
    refine ⟨_, _, _, (ih (cnts xd) (by omega)).mods xd (Nat.le_refl _) t_xd _ _ _ (by unfold BIG; omega) (by unfold BIG; omega), ?_⟩
    refine ⟨_, _, _, (ih (cnts xe) (by omega)).sigs xe (Nat.le_refl _) t_xe _ _ _ (by unfold BIG; omega) (by unfold BIG; omega), ?_⟩
    refine ⟨rfl, rfl, rfl, i + 1, ⟨by omega, by omega⟩, ?_⟩
    rw [kw_pred (x := d) (by omega), en, em]
  · have h := of_decide_eq_false h
    have hil : i = l.length := by omega
    subst hil
    rw [List.take_length] at *
    exact ⟨rfl, rfl, rfl⟩
theorem walk_mods {N : Nat} (ih : ∀ M, M < N → WAll M) : WOk f_tree_walker_mods (fun l => [.ptr 0 0, .slice 5 (avss l) .no]) (.ptr 0 0) y_api_Mod N := by
  intro l hl ht n d m hn hd
  unfold BIG at hn hd
  refine K_mods_ev ?_
  refine loop0 (t := K_mods (avss l) n d m) (fun i : Nat => ⟨tm2 16 [(1, (.func (.func f_tree_walker_mods_1) [] [(.ref [(.ptr 0 0)])])), (6, (.slice 5 (avss l) .no)), (7, (vI (avss l).length)), (8, (vI i))], lm2 16 [], ⟨[[vI (n + cnts (l.take i) : Nat), vI d, vI (wms m d (l.take i) : Nat)]], [], .none, 1⟩⟩) (fun i => i ≤ l.length) (fun i => l.length - i) 0 (by kernel_rfl) (Nat.zero_le _) ?_
  intro i hi
  refine wp_eq2 (KR_mods_eq (avss l) n d m (n + cnts (l.take i) : Nat) d (wms m d (l.take i) : Nat) i) ?_
  rw [avss_len]
  refine wp_if2 (fun h => ?_) (fun h => ?_)
  · have h := of_decide_eq_true h
    obtain ⟨r, hr⟩ : ∃ r, l[i]? = some r := ⟨_, List.getElem?_eq_getElem (by omega : i < l.length)⟩
    have hl2 := (List.getElem?_eq_some_iff.1 hr).1
    obtain ⟨xk, xp, xa, xb, xc, rfl, t_xp, t_xa, t_xb, t_xc⟩ := inv_Mod (ht r (List.mem_of_getElem? hr))
    have e0 := cnts_le hr
    rw [cntR_Mod] at e0
    simp only [oneR] at e0
    have en : n + cnts (l.take (i + 1)) = n + cnts (l.take i) + 1 + cnts xa + cnts xb + cnts xc := by rw [cnts_take hr, cntR_Mod]; simp only [oneR]; omega
    have em := wms_take (m := m) (d := d) hr
    rw [wmR_Mod] at em
    rw [kw_succ (x := n + cnts (l.take i)) (by omega), kw_succ (x := d) (by omega), kmax, kw_succ (x := i) (by have := len_cnts fun r hr => ne_Mod (ht r hr); omega)]
    refine ⟨xk, avss xp, avss xa, avss xb, avss xc, ⟨Int.natCast_nonneg i, avss_at hr⟩, ?_⟩
    refine ⟨_, _, _, (ih (cnts xa) (by omega)).decs xa (Nat.le_refl _) t_xa _ _ _ (by unfold BIG; omega) (by unfold BIG; omega), ?_⟩
    refine ⟨_, _, _, (ih (cnts xb) (by omega)).mods xb (Nat.le_refl _) t_xb _ _ _ (by unfold BIG; omega) (by unfold BIG; omega), ?_⟩
    refine ⟨_, _, _, (ih (cnts xc) (by omega)).sigs xc (Nat.le_refl _) t_xc _ _ _ (by unfold BIG; omega) (by unfold BIG; omega), ?_⟩
    refine ⟨rfl, rfl, rfl, i + 1, ⟨by omega, by omega⟩, ?_⟩
    rw [kw_pred (x := d) (by omega), en, em]
  · have h := of_decide_eq_false h
    have hil : i = l.length := by omega
    subst hil
    rw [List.take_length] at *
    exact ⟨rfl, rfl, rfl⟩
theorem walk_sigs {N : Nat} (ih : ∀ M, M < N → WAll M) : WOk f_tree_walker_sigs (fun l => [.ptr 0 0, .slice 5 (avss l) .no]) (.ptr 0 0) y_api_Sig N := by
  intro l hl ht n d m hn hd
  unfold BIG at hn hd
  refine K_sigs_ev ?_
  refine loop0 (t := K_sigs (avss l) n d m) (fun i : Nat => ⟨tm2 16 [(1, (.func (.func f_tree_walker_sigs_1) [] [(.ref [(.ptr 0 0)])])), (6, (.slice 5 (avss l) .no)), (7, (vI (avss l).length)), (8, (vI i))], lm2 16 [], ⟨[[vI (n + cnts (l.take i) : Nat), vI d, vI (wms m d (l.take i) : Nat)]], [], .none, 1⟩⟩) (fun i => i ≤ l.length) (fun i => l.length - i) 0 (by kernel_rfl) (Nat.zero_le _) ?_
  intro i hi
  refine wp_eq2 (KR_sigs_eq (avss l) n d m (n + cnts (l.take i) : Nat) d (wms m d (l.take i) : Nat) i) ?_
  rw [avss_len]
  refine wp_if2 (fun h => ?_) (fun h => ?_)
  · have h := of_decide_eq_true h
    obtain ⟨r, hr⟩ : ∃ r, l[i]? = some r := ⟨_, List.getElem?_eq_getElem (by omega : i < l.length)⟩
    have hl2 := (List.getElem?_eq_some_iff.1 hr).1
    obtain ⟨xk, xp, xa, xb, xc, rfl, t_xp, t_xa, t_xb, t_xc⟩ := inv_Sig (ht r (List.mem_of_getElem? hr))
    have e0 := cnts_le hr
    rw [cntR_Sig] at e0
    simp only [oneR] at e0
    have en : n + cnts (l.take (i + 1)) = n + cnts (l.take i) + 1 + cnts xa + cnts xb + cnts xc := by rw [cnts_take hr, cntR_Sig]; simp only [oneR]; omega
    have em := wms_take (m := m) (d := d) hr
    rw [wmR_Sig] at em
    rw [kw_succ (x := n + cnts (l.take i)) (by omega), kw_succ (x := d) (by omega), kmax, kw_succ (x := i) (by have := len_cnts fun r hr => ne_Sig (ht r hr); omega)]
    refine ⟨xk, avss xp, avss xa, avss xb, avss xc, ⟨Int.natCast_nonneg i, avss_at hr⟩, ?_⟩
    refine ⟨_, _, _, (ih (cnts xa) (by omega)).specs xa (Nat.le_refl _) t_xa _ _ _ (by unfold BIG; omega) (by unfold BIG; omega), ?_⟩
    refine ⟨_, _, _, (ih (cnts xb) (by omega)).sigs xb (Nat.le_refl _) t_xb _ _ _ (by unfold BIG; omega) (by unfold BIG; omega), ?_⟩
    refine ⟨_, _, _, (ih (cnts xc) (by omega)).tys xc (Nat.le_refl _) t_xc _ _ _ (by unfold BIG; omega) (by unfold BIG; omega), ?_⟩
    refine ⟨rfl, rfl, rfl, i + 1, ⟨by omega, by omega⟩, ?_⟩
    rw [kw_pred (x := d) (by omega), en, em]
  · have h := of_decide_eq_false h
    have hil : i = l.length := by omega
    subst hil
    rw [List.take_length] at *
    exact ⟨rfl, rfl, rfl⟩
theorem walk_specs {N : Nat} (ih : ∀ M, M < N → WAll M) : WOk f_tree_each_api_Spec (fun l => [.slice 6 (avss l) .no, (.func (.func f_tree_walker_sigs_1_1_1) [] [(.ref [(.ptr 0 0)])])]) (.tuple []) y_api_Spec N := by
  intro l hl ht n d m hn hd
  unfold BIG at hn hd
  refine K_specs_ev ?_
  refine loop0 (t := K_specs (avss l) n d m) (fun i : Nat => ⟨tm2 16 [(1, (.func (.func f_tree_walker_sigs_1_1_1) [] [(.ref [(.ptr 0 0)])])), (6, (.slice 6 (avss l) .no)), (7, (vI (avss l).length)), (8, (vI i))], lm2 16 [], ⟨[[vI (n + cnts (l.take i) : Nat), vI d, vI (wms m d (l.take i) : Nat)]], [], .none, 1⟩⟩) (fun i => i ≤ l.length) (fun i => l.length - i) 0 (by kernel_rfl) (Nat.zero_le _) ?_
  intro i hi
  refine wp_eq2 (KR_specs_eq (avss l) n d m (n + cnts (l.take i) : Nat) d (wms m d (l.take i) : Nat) i) ?_
  rw [avss_len]
  refine wp_if2 (fun h => ?_) (fun h => ?_)
  · have h := of_decide_eq_true h
    obtain ⟨r, hr⟩ : ∃ r, l[i]? = some r := ⟨_, List.getElem?_eq_getElem (by omega : i < l.length)⟩
    have hl2 := (List.getElem?_eq_some_iff.1 hr).1
    obtain ⟨xk, xo, xn, xa, xb, xc, rfl, t_xa, t_xb, t_xc⟩ := inv_Spec (ht r (List.mem_of_getElem? hr))
    have e0 := cnts_le hr
    rw [cntR_Spec] at e0
    simp only [oneR] at e0
    have en : n + cnts (l.take (i + 1)) = n + cnts (l.take i) + 1 + cnts xa + cnts xb + cnts xc := by rw [cnts_take hr, cntR_Spec]; simp only [oneR]; omega
    have em := wms_take (m := m) (d := d) hr
    rw [wmR_Spec] at em
    rw [kw_succ (x := n + cnts (l.take i)) (by omega), kw_succ (x := d) (by omega), kmax, kw_succ (x := i) (by have := len_cnts fun r hr => ne_Spec (ht r hr); omega)]
    refine ⟨xk, xo, xn, avss xa, avss xb, avss xc, ⟨Int.natCast_nonneg i, avss_at hr⟩, ?_⟩
    refine ⟨_, _, _, (ih (cnts xa) (by omega)).tys xa (Nat.le_refl _) t_xa _ _ _ (by unfold BIG; omega) (by unfold BIG; omega), ?_⟩
    refine ⟨_, _, _, (ih (cnts xb) (by omega)).cons xb (Nat.le_refl _) t_xb _ _ _ (by unfold BIG; omega) (by unfold BIG; omega), ?_⟩
    refine ⟨_, _, _, (ih (cnts xc) (by omega)).sigs xc (Nat.le_refl _) t_xc _ _ _ (by unfold BIG; omega) (by unfold BIG; omega), ?_⟩
    refine ⟨rfl, rfl, rfl, i + 1, ⟨by omega, by omega⟩, ?_⟩
    rw [kw_pred (x := d) (by omega), en, em]
  · have h := of_decide_eq_false h
    have hil : i = l.length := by omega
    subst hil
    rw [List.take_length] at *
    exact ⟨rfl, rfl⟩
theorem walk_all : ∀ N, WAll N := by
  intro N
  induction N using Nat.strongRecOn with
  | _ N ih => exact ⟨walk_tys ih, walk_pats ih, walk_exps ih, walk_cons ih, walk_decs ih, walk_mods ih, walk_sigs ih, walk_specs ih⟩
end Go.Proofs
