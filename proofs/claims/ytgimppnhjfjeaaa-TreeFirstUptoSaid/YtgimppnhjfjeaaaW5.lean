/- which of declarations is not right, and its error -/
import Derived.Test.YtgimppnhjfjeaaaW4d
import Derived.Test.YtgimppnhjfjeaaaLift
open Go Go.Eng
namespace Go.Proofs
set_option linter.unusedVariables false
set_option linter.unusedSimpArgs false
set_option maxRecDepth 100000
@[irreducible] noncomputable def K_decsf (rows : List (List AV)) (n d m : Int) : KT := kt0 f_tree_walker_decs [.ptr 0 0, .slice 9 rows .full] [[vI n, vI d, vI m]]
@[irreducible] noncomputable def KR_decsf (rows : List
  (List
    AV)) (n : Int) (d : Int) (m : Int) (n' : Int) (d' : Int) (m' : Int) (i : Nat) : KT := KT.round Pg cfg0 rs0 kc0 (K_decsf rows n d m) { tmps := tm2 16 [(1, AV.func (Fn.func f_tree_walker_decs_1) [] [AV.ref [AV.ptr 0 0]]), (6, AV.slice 9 rows Own.full), (7, vI (↑rows.length : Int)), (8, vI (↑i : Int))], lh := lm2 16 [], g := { H := [[vI n', vI d', vI m']], defers := [], rm := RM.none, base := 1 } }
theorem KR_decsf_eq (rows : List
  (List AV)) (n : Int) (d : Int) (m : Int) (n' : Int) (d' : Int) (m' : Int) (i : Nat) : KT.round Pg cfg0 rs0 kc0 (K_decsf rows n d m) { tmps := tm2 16 [(1, AV.func (Fn.func f_tree_walker_decs_1) [] [AV.ref [AV.ptr 0 0]]), (6, AV.slice 9 rows Own.full), (7, vI (↑rows.length : Int)), (8, vI (↑i : Int))], lh := lm2 16 [], g := { H := [[vI n', vI d', vI m']], defers := [], rm := RM.none, base := 1 } } =
  (.branch (decide ((↑i : Int) < (↑rows.length : Int)))
 (.exI fun i1 =>
  (.exI fun i2 =>
   (.exS fun s =>
    (.exR fun l =>
     (.exR fun l1 =>
      (.exR fun l2 =>
       (.exR fun l3 =>
        (.exR fun l4 =>
         (.exR fun l5 =>
          (.row (rows) ((↑i : Int)) [(vI (i1)), (vI (i2)), (vS (s)), (.slice 1 (l) .no), (.slice 4 (l1) .no), (.slice 8 (l2) .no), (.slice 2 (l3) .no), (.slice 5 (l4) .no), (.slice 5 (l5) .no)]
           (.exI fun i3 =>
            (.exI fun i4 =>
             (.exI fun i5 =>
              (.call f_tree_walker_tys [(.ptr 0 0), (.slice 4 (l1) .no)] .none [[(vI (IntKind.i64.wrap (n' + 1))), (vI (IntKind.i64.wrap (d' + 1))), (vI (if IntKind.i64.wrap (d' + 1) > m' then IntKind.i64.wrap (d' + 1) else m'))]] ⟨(.ret (.ptr 0 0)), .none, [[(vI (i3)), (vI (i4)), (vI (i5))]]⟩
               (.exI fun i6 =>
                (.exI fun i7 =>
                 (.exI fun i8 =>
                  (.call f_tree_walker_exps [(.ptr 0 0), (.slice 8 (l2) .no)] .none [[(vI (i3)), (vI (i4)), (vI (i5))]] ⟨(.ret (.ptr 0 0)), .none, [[(vI (i6)), (vI (i7)), (vI (i8))]]⟩
                   (.exI fun i9 =>
                    (.exI fun i10 =>
                     (.exI fun i11 =>
                      (.call f_tree_walker_cons [(.ptr 0 0), (.slice 2 (l3) .no)] .none [[(vI (i6)), (vI (i7)), (vI (i8))]] ⟨(.ret (.ptr 0 0)), .none, [[(vI (i9)), (vI (i10)), (vI (i11))]]⟩
                       (.exI fun i12 =>
                        (.exI fun i13 =>
                         (.exI fun i14 =>
                          (.call f_tree_walker_mods [(.ptr 0 0), (.slice 5 (l4) .no)] .none [[(vI (i9)), (vI (i10)), (vI (i11))]] ⟨(.ret (.ptr 0 0)), .none, [[(vI (i12)), (vI (i13)), (vI (i14))]]⟩
                           (.exI fun i15 =>
                            (.exI fun i16 =>
                             (.exI fun i17 =>
                              (.call f_tree_walker_sigs [(.ptr 0 0), (.slice 5 (l5) .no)] .none [[(vI (i12)), (vI (i13)), (vI (i14))]] ⟨(.ret (.ptr 0 0)), .none, [[(vI (i15)), (vI (i16)), (vI (i17))]]⟩
                               (.need true
                                (.need true
                                 (.need true
                                  (.done ⟨tm2 16 [(1, (.func (.func f_tree_walker_decs_1) [] [(.ref [(.ptr 0 0)])])), (6, (.slice 9 (rows) .full)), (7, (vI ((↑rows.length : Int)))), (8, (vI (IntKind.i64.wrap ((↑i : Int) + 1))))], lm2 16 [], ⟨[[(vI (i15)), (vI (IntKind.i64.wrap (i16 - 1))), (vI (i17))]], [], .none, 1⟩⟩))))))))))))))))))))))))))))))))))
 (.out (.need true
  (.need true
   (.ret ⟨(.ret (.ptr 0 0)), .none, [[(vI (n')), (vI (d')), (vI (m'))]]⟩))))) := by kernel_rfl
theorem K_decsf_ev {rows : List (List AV)} {n d m : Int} {r : CRes} (h : (K_decsf rows n d m).wp Pg cfg0 evp [] (fun x => x = r)) : evp f_tree_walker_decs [.ptr 0 0, .slice 9 rows .full] .none [[vI n, vI d, vI m]] = some r := by
  delta K_decsf at h
  exact kt0_ev h
theorem walk_decsf {N : Nat} (ih : ∀ M, M < N → WAll M) : WOk f_tree_walker_decs (fun l => [.ptr 0 0, .slice 9 (avss l) .full]) (.ptr 0 0) y_api_Dec N := by
  intro l hl ht n d m hn hd
  unfold BIG at hn hd
  refine K_decsf_ev ?_
  refine loop0 (t := K_decsf (avss l) n d m) (fun i : Nat => ⟨tm2 16 [(1, (.func (.func f_tree_walker_decs_1) [] [(.ref [(.ptr 0 0)])])), (6, (.slice 9 (avss l) .full)), (7, (vI (avss l).length)), (8, (vI i))], lm2 16 [], ⟨[[vI (n + cnts (l.take i) : Nat), vI d, vI (wms m d (l.take i) : Nat)]], [], .none, 1⟩⟩) (fun i => i ≤ l.length) (fun i => l.length - i) 0 (by kernel_rfl) (Nat.zero_le _) ?_
  intro i hi
  refine wp_eq2 (KR_decsf_eq (avss l) n d m (n + cnts (l.take i) : Nat) d (wms m d (l.take i) : Nat) i) ?_
  rw [avss_len]
  refine wp_if2 (fun h => ?_) (fun h => ?_)
  · have h := of_decide_eq_true h
    obtain ⟨r, hr⟩ : ∃ r, l[i]? = some r := ⟨_, List.getElem?_eq_getElem (by omega : i < l.length)⟩
    have hl2 := (List.getElem?_eq_some_iff.1 hr).1
    obtain ⟨xk, xo, xn, xp, xa, xb, xc, xd, xe, rfl, t_xp, t_xa, t_xb, t_xc, t_xd, t_xe⟩ := inv_Dec (ht r (List.mem_of_getElem? hr))
    have e0 := cnts_le hr
    rw [cntR_Dec] at e0
    simp only [oneR] at e0
    have en : n + cnts (l.take (i + 1)) = n + cnts (l.take i) + 1 + cnts xa + cnts xb + cnts xc + cnts xd + cnts xe := by rw [cnts_take hr, cntR_Dec]; simp only [oneR]; omega
    have em := wms_take (m := m) (d := d) hr
    rw [wmR_Dec] at em
    rw [kw_succ (x := n + cnts (l.take i)) (by omega), kw_succ (x := d) (by omega), kmax, kw_succ (x := i) (by have := len_cnts fun r hr => ne_Dec (ht r hr); omega)]
    refine ⟨xk, xo, xn, avss xp, avss xa, avss xb, avss xc, avss xd, avss xe, ⟨Int.natCast_nonneg i, avss_at hr⟩, ?_⟩
    refine ⟨_, _, _, (ih (cnts xa) (by omega)).tys xa (Nat.le_refl _) t_xa _ _ _ (by unfold BIG; omega) (by unfold BIG; omega), ?_⟩
    refine ⟨_, _, _, (ih (cnts xb) (by omega)).exps xb (Nat.le_refl _) t_xb _ _ _ (by unfold BIG; omega) (by unfold BIG; omega), ?_⟩
    refine ⟨_, _, _, (ih (cnts xc) (by omega)).cons xc (Nat.le_refl _) t_xc _ _ _ (by unfold BIG; omega) (by unfold BIG; omega), ?_⟩
    refine ⟨_, _, _, (ih (cnts xd) (by omega)).mods xd (Nat.le_refl _) t_xd _ _ _ (by unfold BIG; omega) (by unfold BIG; omega), ?_⟩
    refine ⟨_, _, _, (ih (cnts xe) (by omega)).sigs xe (Nat.le_refl _) t_xe _ _ _ (by unfold BIG; omega) (by unfold BIG; omega), ?_⟩
    refine ⟨rfl, rfl, rfl, i + 1, ⟨by omega, by omega⟩, ?_⟩
    rw [kw_pred (x := d) (by omega), en, em]
  · have h := of_decide_eq_false h
    have hil : i = l.length := by omega
    subst hil
    rw [List.take_length] at *
    exact ⟨rfl, rfl, rfl⟩
@[irreducible] noncomputable def Y_R1 (l : List (List AV)) : KT := (ktc3 f_tree_Right [AV.slice 9 l Own.no] []).T.T
@[irreducible] noncomputable def Z_R1 (l : List (List AV)) (i : Nat) : KT := KT.round Pg cfg0 rs0 kc3 (Y_R1 l) ⟨tm2 44 [(0, (.slice 9 (l) .no)), (9, (.slice 9 (l) .no)), (10, (vI ((↑l.length : Int)))), (11, (vI i))], lm2 44 [], ⟨[], [], .none, 0⟩⟩
@[irreducible] noncomputable def Y_R2 (l : List (List AV)) (i : Nat) (i1 : Int) : KT := ((Z_R1 l i).F.T.I i1).T.F.T
@[irreducible] noncomputable def X_RightD (l : List (List AV)) : KT := ktc3 f_tree_Right [AV.slice 9 l Own.no] []
theorem X_RightD_eq (l : List (List AV)) : ktc3 f_tree_Right [AV.slice 9 l Own.no] [] =
  (.need (lowss 0 (l))
 (.need (lowss 0 (l))
  ((X_RightD l).T.T) /- LOOP f_tree_Right block 0 at ⟨tm2 44 [(0, (.slice 9 (l) .no)), (9, (.slice 9 (l) .no)), (10, (vI ((↑l.length : Int)))), (11, (vI (0)))], lm2 44 [], ⟨[], [], .none, 0⟩⟩ -/)) := by kernel_rfl

@[irreducible] noncomputable def X_R1 (l : List (List AV)) (i : Nat) : KT := KT.round Pg cfg0 rs0 kc3 (Y_R1 l) { tmps := tm2 44 [(0, AV.slice 9 l Own.no), (9, AV.slice 9 l Own.no), (10, vI (↑l.length : Int)), (11, vI (↑i : Int))], lh := lm2 44 [], g := { H := [], defers := [], rm := RM.none, base := 0 } }
theorem X_R1_eq (l : List (List AV)) (i : Nat) : KT.round Pg cfg0 rs0 kc3 (Y_R1 l) { tmps := tm2 44 [(0, AV.slice 9 l Own.no), (9, AV.slice 9 l Own.no), (10, vI (↑l.length : Int)), (11, vI (↑i : Int))], lh := lm2 44 [], g := { H := [], defers := [], rm := RM.none, base := 0 } } =
  (.branch (decide ((↑i : Int) < (↑l.length : Int)))
 (.exI fun i1 =>
  (.exI fun i2 =>
   (.exS fun s =>
    (.exR fun l1 =>
     (.exR fun l2 =>
      (.exR fun l3 =>
       (.exR fun l4 =>
        (.exR fun l5 =>
         (.exR fun l6 =>
          (.row (l) ((↑i : Int)) [(vI (i1)), (vI (i2)), (vS (s)), (.slice 1 (l1) .no), (.slice 4 (l2) .no), (.slice 8 (l3) .no), (.slice 2 (l4) .no), (.slice 5 (l5) .no), (.slice 5 (l6) .no)]
           (.exI fun i3 =>
            (.exI fun i4 =>
             (.exI fun i5 =>
              (.call f_tree_walker_decs [(.ptr 0 0), (.slice 9 [[(vI (i1)), (vI (i2)), (vS (s)), (.slice 1 (l1) .no), (.slice 4 (l2) .no), (.slice 8 (l3) .no), (.slice 2 (l4) .no), (.slice 5 (l5) .no), (.slice 5 (l6) .no)]] .full)] .none [[(vI (0)), (vI (0)), (vI (0))]] ⟨(.ret (.ptr 0 0)), .none, [[(vI (i3)), (vI (i4)), (vI (i5))]]⟩
               (.branch (decide (i5 > 100))
                (.out (.ret ⟨(.ret (.tuple [(vI ((↑i : Int))), (vI (4))])), .none, []⟩))
                (.need (lowss 0 (l))
                 (.need (lowss 0 (l))
                  (.done ⟨tm2 44 [(0, (.slice 9 (l) .no)), (9, (.slice 9 (l) .no)), (10, (vI ((↑l.length : Int)))), (11, (vI (IntKind.i64.wrap ((↑i : Int) + 1))))], lm2 44 [], ⟨[], [], .none, 0⟩⟩))))))))))))))))))
 (.out (.exI fun i1 =>
  (.call f_tree_Nodes [(.slice 9 (l) .no)] .none [] ⟨(.ret (vI (i1))), .none, []⟩
   (.branch (decide (i1 > 4096))
    (.ret ⟨(.ret (.tuple [(vI (0)), (vI (3))])), .none, []⟩)
    (.need (lowss 0 (l))
     (((X_R1 l i).F.T.I i1).T.F.T) /- LOOP f_tree_Right block 2 at ⟨tm2 44 [(30, (.slice 9 (l) .no)), (31, (vI ((↑l.length : Int)))), (32, (vI (0)))], lm2 44 [], ⟨[], [], .none, 0⟩⟩ -/)))))) := by kernel_rfl

@[irreducible] noncomputable def X_R2 (l : List (List AV)) (i : Nat) (i1 : Int) (j : Nat) : KT := KT.round Pg cfg0 rs0 kc3 (Y_R2 l i i1) { tmps := tm2 44 [(30, AV.slice 9 l Own.no), (31, vI (↑l.length : Int)), (32, vI (↑j : Int))], lh := lm2 44 [], g := { H := [], defers := [], rm := RM.none, base := 0 } }
theorem X_R2_eq (l : List (List AV)) (i : Nat) (i1 : Int) (j : Nat) : KT.round Pg cfg0 rs0 kc3 (Y_R2 l i i1) { tmps := tm2 44 [(30, AV.slice 9 l Own.no), (31, vI (↑l.length : Int)), (32, vI (↑j : Int))], lh := lm2 44 [], g := { H := [], defers := [], rm := RM.none, base := 0 } } =
  (.branch (decide ((↑j : Int) < (↑l.length : Int)))
 (.exI fun i2 =>
  (.exI fun i3 =>
   (.exS fun s =>
    (.exR fun l1 =>
     (.exR fun l2 =>
      (.exR fun l3 =>
       (.exR fun l4 =>
        (.exR fun l5 =>
         (.exR fun l6 =>
          (.row (l) ((↑j : Int)) [(vI (i2)), (vI (i3)), (vS (s)), (.slice 1 (l1) .no), (.slice 4 (l2) .no), (.slice 8 (l3) .no), (.slice 2 (l4) .no), (.slice 5 (l5) .no), (.slice 5 (l6) .no)]
           (.alt
            (.call f_tree_dec [(.agg [(vI (i2)), (vI (i3)), (vS (s)), (.slice 1 (l1) .no), (.slice 4 (l2) .no), (.slice 8 (l3) .no), (.slice 2 (l4) .no), (.slice 5 (l5) .no), (.slice 5 (l6) .no)])] .none [[(vI (i2)), (vI (i3)), (vS (s)), (.slice 1 (l1) .no), (.slice 4 (l2) .no), (.slice 8 (l3) .no), (.slice 2 (l4) .no), (.slice 5 (l5) .no), (.slice 5 (l6) .no)], [(vI (0))]] ⟨(.ret (.tuple [])), .none, [[(vI (i2)), (vI (i3)), (vS (s)), (.slice 1 (l1) .no), (.slice 4 (l2) .no), (.slice 8 (l3) .no), (.slice 2 (l4) .no), (.slice 5 (l5) .no), (.slice 5 (l6) .no)], [(vI (0))]]⟩
             (.need true
              (.branch (!true)
               (.branch (!false)
                .fail
                (.need (lowss 1 (l1))
                 (.need (lowss 1 (l2))
                  (.need (lowss 1 (l3))
                   (.need (lowss 1 (l4))
                    (.need (lowss 1 (l5))
                     (.need (lowss 1 (l6))
                      (.branch (0 != 0)
                       (.out (.ret ⟨(.ret (.tuple [(vI ((↑j : Int))), (vI (0))])), .none, []⟩))
                       (.need (lowss 0 (l))
                        (.done ⟨tm2 44 [(30, (.slice 9 (l) .no)), (31, (vI ((↑l.length : Int)))), (32, (vI (IntKind.i64.wrap ((↑j : Int) + 1))))], lm2 44 [], ⟨[], [], .none, 0⟩⟩))))))))))
               (.need (lowss 1 (l1))
                (.need (lowss 1 (l2))
                 (.need (lowss 1 (l3))
                  (.need (lowss 1 (l4))
                   (.need (lowss 1 (l5))
                    (.need (lowss 1 (l6))
                     (.branch (0 != 0)
                      (.out (.ret ⟨(.ret (.tuple [(vI ((↑j : Int))), (vI (0))])), .none, []⟩))
                      (.need (lowss 0 (l))
                       (.done ⟨tm2 44 [(30, (.slice 9 (l) .no)), (31, (vI ((↑l.length : Int)))), (32, (vI (IntKind.i64.wrap ((↑j : Int) + 1))))], lm2 44 [], ⟨[], [], .none, 0⟩⟩))))))))))))
            (.exI fun i4 =>
             (.call f_tree_dec [(.agg [(vI (i2)), (vI (i3)), (vS (s)), (.slice 1 (l1) .no), (.slice 4 (l2) .no), (.slice 8 (l3) .no), (.slice 2 (l4) .no), (.slice 5 (l5) .no), (.slice 5 (l6) .no)])] .none [[(vI (i2)), (vI (i3)), (vS (s)), (.slice 1 (l1) .no), (.slice 4 (l2) .no), (.slice 8 (l3) .no), (.slice 2 (l4) .no), (.slice 5 (l5) .no), (.slice 5 (l6) .no)], [(vI (0))]] ⟨(.panic (.iface y_tree_wrong (vI (i4)))), .none, [[(vI (i2)), (vI (i3)), (vS (s)), (.slice 1 (l1) .no), (.slice 4 (l2) .no), (.slice 8 (l3) .no), (.slice 2 (l4) .no), (.slice 5 (l5) .no), (.slice 5 (l6) .no)], [(vI (0))]]⟩
              (.need true
               (.branch (!false)
                (.branch (!true)
                 (.need (lowss 1 (l1))
                  (.need (lowss 1 (l2))
                   (.need (lowss 1 (l3))
                    (.need (lowss 1 (l4))
                     (.need (lowss 1 (l5))
                      (.need (lowss 1 (l6))
                       (.out (.ret ⟨(.panic (.iface y_tree_wrong (vI (i4)))), .none, []⟩))))))))
                 (.need (lowss 1 (l1))
                  (.need (lowss 1 (l2))
                   (.need (lowss 1 (l3))
                    (.need (lowss 1 (l4))
                     (.need (lowss 1 (l5))
                      (.need (lowss 1 (l6))
                       (.branch (i4 != 0)
                        (.out (.ret ⟨(.ret (.tuple [(vI ((↑j : Int))), (vI (i4))])), .none, []⟩))
                        (.need (lowss 0 (l))
                         (.done ⟨tm2 44 [(30, (.slice 9 (l) .no)), (31, (vI ((↑l.length : Int)))), (32, (vI (IntKind.i64.wrap ((↑j : Int) + 1))))], lm2 44 [], ⟨[], [], .none, 0⟩⟩))))))))))
                (.need (lowss 1 (l1))
                 (.need (lowss 1 (l2))
                  (.need (lowss 1 (l3))
                   (.need (lowss 1 (l4))
                    (.need (lowss 1 (l5))
                     (.need (lowss 1 (l6))
                      (.branch (0 != 0)
                       (.out (.ret ⟨(.ret (.tuple [(vI ((↑j : Int))), (vI (0))])), .none, []⟩))
                       (.need (lowss 0 (l))
                        (.done ⟨tm2 44 [(30, (.slice 9 (l) .no)), (31, (vI ((↑l.length : Int)))), (32, (vI (IntKind.i64.wrap ((↑j : Int) + 1))))], lm2 44 [], ⟨[], [], .none, 0⟩⟩))))))))))))))))))))))))
 (.out (.ret ⟨(.ret (.tuple [(vI (0)), (vI (0))])), .none, []⟩))) := by kernel_rfl


theorem decs_full {l : List Row} (ht : ∀ r ∈ l, Has Pg y_api_Dec r) (n d m : Nat) (hn : n + cnts l < BIG) (hd : d + cnts l < BIG) :
    evp f_tree_walker_decs [.ptr 0 0, .slice 9 (avss l) .full] .none [[vI n, vI d, vI m]] = some ⟨.ret (.ptr 0 0), .none, [[vI (n + cnts l : Nat), vI d, vI (wms m d l : Nat)]]⟩ :=
  walk_decsf (N := cnts l) (fun M _ => walk_all M) l (Nat.le_refl _) ht n d m hn hd
theorem dec_at {r : Row} {K : Heap} (ht : Has Pg y_api_Dec r) (hb : bulks r < SMALL) (hk : lowss K.length K = true) : evp f_tree_dec [.agg (avs r)] .none K = some ⟨oc (errOf f_tree_dec r), .none, K⟩ := by
  refine ev_lift (dec_ok ht hb) ?_ ?_ hk
  · simp only [List.map_cons, List.map_nil, AV.ren, ren_avs]
  · unfold oc; split <;> rfl
/-- the first of a list for which something holds -/
def first (p : Row → Bool) : Nat → List Row → Option (Nat × Row)
  | _, [] => none
  | i, r :: l => if p r then some (i, r) else first p (i + 1) l
noncomputable def derr (r : Row) : Int := errOf f_tree_dec r
def deep (r : Row) : Bool := decide (wms 0 0 [r] > 100)
noncomputable def right (l : List Row) : Int × Int :=
  match first deep 0 l with
  | some (i, _) => (i, 4)
  | none => if cnts l > 4096 then (0, 3) else match first (fun r => derr r != 0) 0 l with
    | some (i, r) => (i, derr r)
    | none => (0, 0)
end Go.Proofs
