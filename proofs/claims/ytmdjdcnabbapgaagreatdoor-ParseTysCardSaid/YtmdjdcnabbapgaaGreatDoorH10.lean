/- Texts of this proof folded into one: TF RX7 A2. -/
import Derived.Test.YtmdjdcnabbapgaaGreatDoorH7
import Derived.Test.YtmdjdcnabbapgaaGreatDoorH9
section
open Go Go.Eng
namespace Go.Proofs
noncomputable def shL7 : List (Nat × KM) := [(f_lex_Lex, .con (some (resSh Pg f_lex_Lex)) none false),
  (f_waferref03_Lex, .con (some (resSh Pg f_waferref03_Lex)) none false),
  (f_tree_RightTy, .con (some (resSh Pg f_tree_RightTy)) none false),
  (f_tree_RightPat, .con (some (resSh Pg f_tree_RightPat)) none false),
  (f_tree_RightExp, .con (some (resSh Pg f_tree_RightExp)) none false),
  (f_waferref04_RightTy, .con (some (resSh Pg f_waferref04_RightTy)) none false),
  (f_waferref04_RightPat, .con (some (resSh Pg f_waferref04_RightPat)) none false),
  (f_waferref04_RightExp, .con (some (resSh Pg f_waferref04_RightExp)) none false),
  (f_waferref04_SameTy, .con (some (resSh Pg f_waferref04_SameTy)) none false),
  (f_waferref04_SamePat, .con (some (resSh Pg f_waferref04_SamePat)) none false),
  (f_waferref04_SameExp, .con (some (resSh Pg f_waferref04_SameExp)) none false),
  (f_waferlaw05_alive, .con (some (resSh Pg f_waferlaw05_alive)) none false),
  (f_parsecore_Ty, .con (some (resSh Pg f_parsecore_Ty)) none false),
  (f_parsecore_Pat, .con (some (resSh Pg f_parsecore_Pat)) none false),
  (f_parsecore_Exp, .con (some (resSh Pg f_parsecore_Exp)) none false),
  (f_waferref05_Ty, .con (some (resSh Pg f_waferref05_Ty)) none false),
  (f_waferref05_Pat, .con (some (resSh Pg f_waferref05_Pat)) none false),
  (f_waferref05_Exp, .con (some (resSh Pg f_waferref05_Exp)) none false),
  (f_lex_Join, .con (some (resSh Pg f_lex_Join)) none false),
  (f_parsecore_Read, .keep),
  (f_waferref05_Read, .keep),
  (f_parsecore_whole_api_Ty, .inl true),
  (f_parsecore_Reader_Ty, .con (some (resSh Pg f_parsecore_Reader_Ty)) (some (y_parsecore_failure, .const (.agg []))) true),
  (f_waferref05_Reader_Ty, .con (some (resSh Pg f_waferref05_Reader_Ty)) none true),
  (f_parsecore_whole_api_Pat, .inl true),
  (f_parsecore_Reader_Pat, .con (some (resSh Pg f_parsecore_Reader_Pat)) (some (y_parsecore_failure, .const (.agg []))) true),
  (f_waferref05_Reader_Pat, .con (some (resSh Pg f_waferref05_Reader_Pat)) none true),
  (f_parsecore_whole_api_Exp, .inl true),
  (f_parsecore_Reader_Exp, .con (some (resSh Pg f_parsecore_Reader_Exp)) (some (y_parsecore_failure, .const (.agg []))) true),
  (f_waferref05_Reader_Exp, .con (some (resSh Pg f_waferref05_Reader_Exp)) none true)]
noncomputable def sh7 : FuncId → KM := fun f => match shL7.lookup f with
  | some k => k
  | none => .inl false
@[irreducible] noncomputable def ktc7 (f : FuncId) (args : List AV) (H : Heap) : KT := ktree Pg cfg0 rs0 sh7 12 true f args .none H
theorem ktc7_ev {f : FuncId} {args : List AV} {H : Heap} {r : CRes} (h : (ktc7 f args H).wp Pg cfg0 evp [] (fun x => x = r)) : evp f args .none H = some r := by
  delta ktc7 at h
  obtain ⟨x, h1, rfl⟩ := ktree_sound (ev_byCode hx0) h
  exact h1
end Go.Proofs
end

section
/- TREES, printed by kt.py out of y7.txt -/
open Go Go.Eng
namespace Go.Proofs
set_option linter.unusedVariables false
set_option maxRecDepth 100000
@[irreducible] noncomputable def X_Ty (s : ByteArray) : KT := ktc7 f_parsecore_Ty [vS s] []
theorem X_Ty_eq (s : ByteArray) : ktc7 f_parsecore_Ty [vS s] [] =
 (.exR fun l =>
 (.exI fun i =>
 (.exI fun i1 =>
 (.call f_lex_Lex [(vS (s))] .none [] ⟨(.ret (.tuple [(.slice 4 (l) .no), (vI (i)), (vI (i1))])), .none, []⟩
 (.branch (i1 != 0)
 (.need true
 (.branch (i1 != 0)
 (.need (lowss 0 [])
 (.need (lowss 0 [])
 (.need (lowss 0 [])
 (.need (lowss 0 [])
 (.ret ⟨(.ret (.tuple [(.agg [(vI (0)), (vS ((⟨#[]⟩ : ByteArray))), (.slice 1 [] .no), (.slice 4 [] .no)]), (vI (i)), (vI (i1))])), .none, []⟩)))))
 (.alt
 (.exI fun i2 =>
 (.exS fun s1 =>
 (.exR fun l1 =>
 (.exR fun l2 =>
 (.call f_parsecore_Reader_Ty [(.val (.pointer .none))] .none [] ⟨(.ret (.agg [(vI (i2)), (vS (s1)), (.slice 1 (l1) .no), (.slice 4 (l2) .no)])), .none, []⟩
 (.branch ((none : Option Addr).isNone)
 (.need true
 (.branch (2 != 0)
 (.need (lowss 0 [])
 (.need (lowss 0 [])
 (.need (lowss 0 [])
 (.need (lowss 0 [])
 (.ret ⟨(.ret (.tuple [(.agg [(vI (0)), (vS ((⟨#[]⟩ : ByteArray))), (.slice 1 [] .no), (.slice 4 [] .no)]), (vI (0)), (vI (2))])), .none, []⟩)))))
 (.exI fun i3 =>
 (.call f_tree_RightTy [(.agg [(vI (i2)), (vS (s1)), (.slice 1 (l1) .no), (.slice 4 (l2) .no)])] .none [] ⟨(.ret (vI (i3))), .none, []⟩
 (.branch (i3 == 4)
 (.need (lowss 0 [])
 (.need (lowss 0 [])
 (.need (lowss 0 [])
 (.need (lowss 0 [])
 (.ret ⟨(.ret (.tuple [(.agg [(vI (0)), (vS ((⟨#[]⟩ : ByteArray))), (.slice 1 [] .no), (.slice 4 [] .no)]), (vI (0)), (vI (4))])), .none, []⟩)))))
 (.need (lowss 0 (l1))
 (.need (lowss 0 (l2))
 (.need (lowss 0 (l1))
 (.need (lowss 0 (l2))
 (.ret ⟨(.ret (.tuple [(.agg [(vI (i2)), (vS (s1)), (.slice 1 (l1) .no), (.slice 4 (l2) .no)]), (vI (0)), (vI (0))])), .none, []⟩))))))))))
 .fail))))))
 (.call f_parsecore_Reader_Ty [(.val (.pointer .none))] .none [] ⟨(.panic (.iface y_parsecore_failure (.agg []))), .none, []⟩
 (.ret ⟨(.panic (.iface y_parsecore_failure (.agg []))), .none, []⟩)))))
 (.need true
 (.branch (0 != 0)
 (.need (lowss 0 [])
 (.need (lowss 0 [])
 (.need (lowss 0 [])
 (.need (lowss 0 [])
 (.ret ⟨(.ret (.tuple [(.agg [(vI (0)), (vS ((⟨#[]⟩ : ByteArray))), (.slice 1 [] .no), (.slice 4 [] .no)]), (vI (0)), (vI (0))])), .none, []⟩)))))
 (.alt
 (.exI fun i2 =>
 (.exS fun s1 =>
 (.exR fun l1 =>
 (.exR fun l2 =>
 (.exR fun l3 =>
 (.exI fun i3 =>
 (.exI fun i4 =>
 (.exI fun i5 =>
 (.exI fun i6 =>
 (.call f_parsecore_Reader_Ty [(.ptr 0 0)] .none [[(.slice 4 (l) .no), (vI ((↑s.size : Int))), (vI (0)), (vI (0)), (vI (0))]] ⟨(.ret (.agg [(vI (i2)), (vS (s1)), (.slice 1 (l1) .no), (.slice 4 (l2) .no)])), .none, [[(.slice 4 (l3) .no), (vI (i3)), (vI (i4)), (vI (i5)), (vI (i6))]]⟩
 (.branch (false)
 (.need true
 (.branch (2 != 0)
 (.need (lowss 0 [])
 (.need (lowss 0 [])
 (.need (lowss 0 [])
 (.need (lowss 0 [])
 (.ret ⟨(.ret (.tuple [(.agg [(vI (0)), (vS ((⟨#[]⟩ : ByteArray))), (.slice 1 [] .no), (.slice 4 [] .no)]), (vI (0)), (vI (2))])), .none, []⟩)))))
 (.exI fun i7 =>
 (.call f_tree_RightTy [(.agg [(vI (i2)), (vS (s1)), (.slice 1 (l1) .no), (.slice 4 (l2) .no)])] .none [[(.slice 4 (l3) .no), (vI (i3)), (vI (i4)), (vI (i5)), (vI (i6))]] ⟨(.ret (vI (i7))), .none, [[(.slice 4 (l3) .no), (vI (i3)), (vI (i4)), (vI (i5)), (vI (i6))]]⟩
 (.branch (i7 == 4)
 (.need (lowss 0 [])
 (.need (lowss 0 [])
 (.need (lowss 0 [])
 (.need (lowss 0 [])
 (.ret ⟨(.ret (.tuple [(.agg [(vI (0)), (vS ((⟨#[]⟩ : ByteArray))), (.slice 1 [] .no), (.slice 4 [] .no)]), (vI (0)), (vI (4))])), .none, []⟩)))))
 (.need (lowss 0 (l1))
 (.need (lowss 0 (l2))
 (.need (lowss 0 (l1))
 (.need (lowss 0 (l2))
 (.ret ⟨(.ret (.tuple [(.agg [(vI (i2)), (vS (s1)), (.slice 1 (l1) .no), (.slice 4 (l2) .no)]), (vI (0)), (vI (0))])), .none, []⟩))))))))))
 (.branch (i4 != 0)
 (.need true
 (.branch (i4 != 0)
 (.need (lowss 0 [])
 (.need (lowss 0 [])
 (.need (lowss 0 [])
 (.need (lowss 0 [])
 (.ret ⟨(.ret (.tuple [(.agg [(vI (0)), (vS ((⟨#[]⟩ : ByteArray))), (.slice 1 [] .no), (.slice 4 [] .no)]), (vI (i5)), (vI (i4))])), .none, []⟩)))))
 (.exI fun i7 =>
 (.call f_tree_RightTy [(.agg [(vI (i2)), (vS (s1)), (.slice 1 (l1) .no), (.slice 4 (l2) .no)])] .none [[(.slice 4 (l3) .no), (vI (i3)), (vI (i4)), (vI (i5)), (vI (i6))]] ⟨(.ret (vI (i7))), .none, [[(.slice 4 (l3) .no), (vI (i3)), (vI (i4)), (vI (i5)), (vI (i6))]]⟩
 (.branch (i7 == 4)
 (.need (lowss 0 [])
 (.need (lowss 0 [])
 (.need (lowss 0 [])
 (.need (lowss 0 [])
 (.ret ⟨(.ret (.tuple [(.agg [(vI (0)), (vS ((⟨#[]⟩ : ByteArray))), (.slice 1 [] .no), (.slice 4 [] .no)]), (vI (0)), (vI (4))])), .none, []⟩)))))
 (.need (lowss 0 (l1))
 (.need (lowss 0 (l2))
 (.need (lowss 0 (l1))
 (.need (lowss 0 (l2))
 (.ret ⟨(.ret (.tuple [(.agg [(vI (i2)), (vS (s1)), (.slice 1 (l1) .no), (.slice 4 (l2) .no)]), (vI (0)), (vI (0))])), .none, []⟩))))))))))
 (.branch (decide ((↑l3.length : Int) > 0))
 (.exI fun i7 =>
 (.exS fun s2 =>
 (.exI fun i8 =>
 (.exI fun i9 =>
 (.row (l3) (0) [(vI (i7)), (vS (s2)), (vI (i8)), (vI (i9))]
 (.need true
 (.branch (11 != 0)
 (.need (lowss 0 [])
 (.need (lowss 0 [])
 (.need (lowss 0 [])
 (.need (lowss 0 [])
 (.ret ⟨(.ret (.tuple [(.agg [(vI (0)), (vS ((⟨#[]⟩ : ByteArray))), (.slice 1 [] .no), (.slice 4 [] .no)]), (vI (i9)), (vI (11))])), .none, []⟩)))))
 (.exI fun i10 =>
 (.call f_tree_RightTy [(.agg [(vI (i2)), (vS (s1)), (.slice 1 (l1) .no), (.slice 4 (l2) .no)])] .none [[(.slice 4 (l3) .no), (vI (i3)), (vI (i4)), (vI (i5)), (vI (i6))]] ⟨(.ret (vI (i10))), .none, [[(.slice 4 (l3) .no), (vI (i3)), (vI (i4)), (vI (i5)), (vI (i6))]]⟩
 (.branch (i10 == 4)
 (.need (lowss 0 [])
 (.need (lowss 0 [])
 (.need (lowss 0 [])
 (.need (lowss 0 [])
 (.ret ⟨(.ret (.tuple [(.agg [(vI (0)), (vS ((⟨#[]⟩ : ByteArray))), (.slice 1 [] .no), (.slice 4 [] .no)]), (vI (0)), (vI (4))])), .none, []⟩)))))
 (.need (lowss 0 (l1))
 (.need (lowss 0 (l2))
 (.need (lowss 0 (l1))
 (.need (lowss 0 (l2))
 (.ret ⟨(.ret (.tuple [(.agg [(vI (i2)), (vS (s1)), (.slice 1 (l1) .no), (.slice 4 (l2) .no)]), (vI (0)), (vI (0))])), .none, []⟩)))))))))))))))
 (.need true
 (.branch (0 != 0)
 (.need (lowss 0 [])
 (.need (lowss 0 [])
 (.need (lowss 0 [])
 (.need (lowss 0 [])
 (.ret ⟨(.ret (.tuple [(.agg [(vI (0)), (vS ((⟨#[]⟩ : ByteArray))), (.slice 1 [] .no), (.slice 4 [] .no)]), (vI (0)), (vI (0))])), .none, []⟩)))))
 (.exI fun i7 =>
 (.call f_tree_RightTy [(.agg [(vI (i2)), (vS (s1)), (.slice 1 (l1) .no), (.slice 4 (l2) .no)])] .none [[(.slice 4 (l3) .no), (vI (i3)), (vI (i4)), (vI (i5)), (vI (i6))]] ⟨(.ret (vI (i7))), .none, [[(.slice 4 (l3) .no), (vI (i3)), (vI (i4)), (vI (i5)), (vI (i6))]]⟩
 (.branch (i7 == 4)
 (.need (lowss 0 [])
 (.need (lowss 0 [])
 (.need (lowss 0 [])
 (.need (lowss 0 [])
 (.ret ⟨(.ret (.tuple [(.agg [(vI (0)), (vS ((⟨#[]⟩ : ByteArray))), (.slice 1 [] .no), (.slice 4 [] .no)]), (vI (0)), (vI (4))])), .none, []⟩)))))
 (.need (lowss 0 (l1))
 (.need (lowss 0 (l2))
 (.need (lowss 0 (l1))
 (.need (lowss 0 (l2))
 (.ret ⟨(.ret (.tuple [(.agg [(vI (i2)), (vS (s1)), (.slice 1 (l1) .no), (.slice 4 (l2) .no)]), (vI (0)), (vI (0))])), .none, []⟩)))))))))))))))))))))))
 (.exR fun l1 =>
 (.exI fun i2 =>
 (.exI fun i3 =>
 (.exI fun i4 =>
 (.exI fun i5 =>
 (.call f_parsecore_Reader_Ty [(.ptr 0 0)] .none [[(.slice 4 (l) .no), (vI ((↑s.size : Int))), (vI (0)), (vI (0)), (vI (0))]] ⟨(.panic (.iface y_parsecore_failure (.agg []))), .none, [[(.slice 4 (l1) .no), (vI (i2)), (vI (i3)), (vI (i4)), (vI (i5))]]⟩
 (.ret ⟨(.panic (.iface y_parsecore_failure (.agg []))), .none, []⟩))))))))))))))) := by kernel_rfl
@[irreducible] noncomputable def X_rTyS (s : ByteArray) : KT := ktc7 f_waferref05_Ty [vS s] []
theorem X_rTyS_eq (s : ByteArray) : ktc7 f_waferref05_Ty [vS s] [] =
 (.exR fun l =>
 (.exI fun i =>
 (.exI fun i1 =>
 (.call f_waferref03_Lex [(vS (s))] .none [] ⟨(.ret (.tuple [(.slice 4 (l) .no), (vI (i)), (vI (i1))])), .none, []⟩
 (.branch (i1 != 0)
 (.need true
 (.branch (i1 != 0)
 (.need (lowss 0 [])
 (.need (lowss 0 [])
 (.ret ⟨(.ret (.tuple [(.agg [(vI (0)), (vS ((⟨#[]⟩ : ByteArray))), (.slice 1 [] .no), (.slice 4 [] .no)]), (vI (i)), (vI (i1))])), .none, []⟩)))
 (.exI fun i2 =>
 (.exS fun s1 =>
 (.exR fun l1 =>
 (.exR fun l2 =>
 (.call f_waferref05_Reader_Ty [(.val (.pointer .none))] .none [] ⟨(.ret (.agg [(vI (i2)), (vS (s1)), (.slice 1 (l1) .no), (.slice 4 (l2) .no)])), .none, []⟩
 (.branch ((none : Option Addr).isNone)
 (.need true
 (.stage
 (.branch (2 == 0)
 (.exI fun i3 =>
 (.call f_waferref04_RightTy [(.agg [(vI (i2)), (vS (s1)), (.slice 1 (l1) .no), (.slice 4 (l2) .no)])] .none [] ⟨(.ret (vI (i3))), .none, []⟩
 (.branch (i3 == 4)
 (.done ⟨tm2 40 [(2, (.lp 2 0 0)), (6, (vI (0))), (7, (vI (4))), (8, (.lp 8 0 0))], lm2 40 [(2, (0, [(vI (0)), (vS ((⟨#[]⟩ : ByteArray))), (.slice 0 [] .full), (.slice 0 [] .full)])), (8, (0, [(vI (i2)), (vS (s1)), (.slice 1 (l1) .no), (.slice 4 (l2) .no)]))], ⟨[], [], .none, 0⟩⟩)
 (.done ⟨tm2 40 [(2, (.lp 2 0 0)), (6, (vI (0))), (7, (vI (2))), (8, (.lp 8 0 0))], lm2 40 [(2, (0, [(vI (0)), (vS ((⟨#[]⟩ : ByteArray))), (.slice 0 [] .full), (.slice 0 [] .full)])), (8, (0, [(vI (i2)), (vS (s1)), (.slice 1 (l1) .no), (.slice 4 (l2) .no)]))], ⟨[], [], .none, 0⟩⟩))))
 (.done ⟨tm2 40 [(2, (.lp 2 0 0)), (6, (vI (0))), (7, (vI (2))), (8, (.lp 8 0 0))], lm2 40 [(2, (0, [(vI (0)), (vS ((⟨#[]⟩ : ByteArray))), (.slice 0 [] .full), (.slice 0 [] .full)])), (8, (0, [(vI (i2)), (vS (s1)), (.slice 1 (l1) .no), (.slice 4 (l2) .no)]))], ⟨[], [], .none, 0⟩⟩))
 (((((((((X_rTyS s).R l).I i).I i1).T.T.T.F.I i2).S s1).R l1).R l2).T.T.T.K)))
 .fail))))))))
 (.need true
 (.branch (0 != 0)
 (.need (lowss 0 [])
 (.need (lowss 0 [])
 (.ret ⟨(.ret (.tuple [(.agg [(vI (0)), (vS ((⟨#[]⟩ : ByteArray))), (.slice 1 [] .no), (.slice 4 [] .no)]), (vI (0)), (vI (0))])), .none, []⟩)))
 (.exI fun i2 =>
 (.exS fun s1 =>
 (.exR fun l1 =>
 (.exR fun l2 =>
 (.exR fun l3 =>
 (.exI fun i3 =>
 (.exI fun i4 =>
 (.exI fun i5 =>
 (.exI fun i6 =>
 (.call f_waferref05_Reader_Ty [(.ptr 0 0)] .none [[(.slice 4 (l) .no), (vI ((↑s.size : Int))), (vI (0)), (vI (0)), (vI (0))]] ⟨(.ret (.agg [(vI (i2)), (vS (s1)), (.slice 1 (l1) .no), (.slice 4 (l2) .no)])), .none, [[(.slice 4 (l3) .no), (vI (i3)), (vI (i4)), (vI (i5)), (vI (i6))]]⟩
 (.branch (false)
 (.need true
 (.stage
 (.branch (2 == 0)
 (.exI fun i7 =>
 (.call f_waferref04_RightTy [(.agg [(vI (i2)), (vS (s1)), (.slice 1 (l1) .no), (.slice 4 (l2) .no)])] .none [[(.slice 4 (l3) .no), (vI (i3)), (vI (i4)), (vI (i5)), (vI (i6))]] ⟨(.ret (vI (i7))), .none, [[(.slice 4 (l3) .no), (vI (i3)), (vI (i4)), (vI (i5)), (vI (i6))]]⟩
 (.branch (i7 == 4)
 (.done ⟨tm2 40 [(2, (.lp 2 0 0)), (6, (vI (0))), (7, (vI (4))), (8, (.lp 8 0 0))], lm2 40 [(2, (0, [(vI (0)), (vS ((⟨#[]⟩ : ByteArray))), (.slice 0 [] .full), (.slice 0 [] .full)])), (8, (0, [(vI (i2)), (vS (s1)), (.slice 1 (l1) .no), (.slice 4 (l2) .no)]))], ⟨[[(.slice 4 (l3) .no), (vI (i3)), (vI (i4)), (vI (i5)), (vI (i6))]], [], .none, 0⟩⟩)
 (.done ⟨tm2 40 [(2, (.lp 2 0 0)), (6, (vI (0))), (7, (vI (2))), (8, (.lp 8 0 0))], lm2 40 [(2, (0, [(vI (0)), (vS ((⟨#[]⟩ : ByteArray))), (.slice 0 [] .full), (.slice 0 [] .full)])), (8, (0, [(vI (i2)), (vS (s1)), (.slice 1 (l1) .no), (.slice 4 (l2) .no)]))], ⟨[[(.slice 4 (l3) .no), (vI (i3)), (vI (i4)), (vI (i5)), (vI (i6))]], [], .none, 0⟩⟩))))
 (.done ⟨tm2 40 [(2, (.lp 2 0 0)), (6, (vI (0))), (7, (vI (2))), (8, (.lp 8 0 0))], lm2 40 [(2, (0, [(vI (0)), (vS ((⟨#[]⟩ : ByteArray))), (.slice 0 [] .full), (.slice 0 [] .full)])), (8, (0, [(vI (i2)), (vS (s1)), (.slice 1 (l1) .no), (.slice 4 (l2) .no)]))], ⟨[[(.slice 4 (l3) .no), (vI (i3)), (vI (i4)), (vI (i5)), (vI (i6))]], [], .none, 0⟩⟩))
 ((((((((((((((X_rTyS s).R l).I i).I i1).T.F.T.F.I i2).S s1).R l1).R l2).R l3).I i3).I i4).I i5).I i6).T.T.T.K)))
 (.branch (i5 != 0)
 (.need true
 (.stage
 (.branch (i5 == 0)
 (.exI fun i7 =>
 (.call f_waferref04_RightTy [(.agg [(vI (i2)), (vS (s1)), (.slice 1 (l1) .no), (.slice 4 (l2) .no)])] .none [[(.slice 4 (l3) .no), (vI (i3)), (vI (i4)), (vI (i5)), (vI (i6))]] ⟨(.ret (vI (i7))), .none, [[(.slice 4 (l3) .no), (vI (i3)), (vI (i4)), (vI (i5)), (vI (i6))]]⟩
 (.branch (i7 == 4)
 (.done ⟨tm2 40 [(2, (.lp 2 0 0)), (6, (vI (i6))), (7, (vI (4))), (8, (.lp 8 0 0))], lm2 40 [(2, (0, [(vI (0)), (vS ((⟨#[]⟩ : ByteArray))), (.slice 0 [] .full), (.slice 0 [] .full)])), (8, (0, [(vI (i2)), (vS (s1)), (.slice 1 (l1) .no), (.slice 4 (l2) .no)]))], ⟨[[(.slice 4 (l3) .no), (vI (i3)), (vI (i4)), (vI (i5)), (vI (i6))]], [], .none, 0⟩⟩)
 (.done ⟨tm2 40 [(2, (.lp 2 0 0)), (6, (vI (i6))), (7, (vI (i5))), (8, (.lp 8 0 0))], lm2 40 [(2, (0, [(vI (0)), (vS ((⟨#[]⟩ : ByteArray))), (.slice 0 [] .full), (.slice 0 [] .full)])), (8, (0, [(vI (i2)), (vS (s1)), (.slice 1 (l1) .no), (.slice 4 (l2) .no)]))], ⟨[[(.slice 4 (l3) .no), (vI (i3)), (vI (i4)), (vI (i5)), (vI (i6))]], [], .none, 0⟩⟩))))
 (.done ⟨tm2 40 [(2, (.lp 2 0 0)), (6, (vI (i6))), (7, (vI (i5))), (8, (.lp 8 0 0))], lm2 40 [(2, (0, [(vI (0)), (vS ((⟨#[]⟩ : ByteArray))), (.slice 0 [] .full), (.slice 0 [] .full)])), (8, (0, [(vI (i2)), (vS (s1)), (.slice 1 (l1) .no), (.slice 4 (l2) .no)]))], ⟨[[(.slice 4 (l3) .no), (vI (i3)), (vI (i4)), (vI (i5)), (vI (i6))]], [], .none, 0⟩⟩))
 ((((((((((((((X_rTyS s).R l).I i).I i1).T.F.T.F.I i2).S s1).R l1).R l2).R l3).I i3).I i4).I i5).I i6).T.F.T.T.K)))
 (.branch (decide (i4 < (↑l3.length : Int)))
 (.branch (decide (i4 < (↑l3.length : Int)))
 (.exI fun i7 =>
 (.exS fun s2 =>
 (.exI fun i8 =>
 (.exI fun i9 =>
 (.row (l3) (i4) [(vI (i7)), (vS (s2)), (vI (i8)), (vI (i9))]
 (.need true
 (.need true
 (.stage
 (.branch (11 == 0)
 (.exI fun i10 =>
 (.call f_waferref04_RightTy [(.agg [(vI (i2)), (vS (s1)), (.slice 1 (l1) .no), (.slice 4 (l2) .no)])] .none [[(.slice 4 (l3) .no), (vI (i3)), (vI (i4)), (vI (i5)), (vI (i6))]] ⟨(.ret (vI (i10))), .none, [[(.slice 4 (l3) .no), (vI (i3)), (vI (i4)), (vI (i5)), (vI (i6))]]⟩
 (.branch (i10 == 4)
 (.done ⟨tm2 40 [(2, (.lp 2 0 0)), (6, (vI (i9))), (7, (vI (4))), (8, (.lp 8 0 0))], lm2 40 [(2, (0, [(vI (0)), (vS ((⟨#[]⟩ : ByteArray))), (.slice 0 [] .full), (.slice 0 [] .full)])), (8, (0, [(vI (i2)), (vS (s1)), (.slice 1 (l1) .no), (.slice 4 (l2) .no)]))], ⟨[[(.slice 4 (l3) .no), (vI (i3)), (vI (i4)), (vI (i5)), (vI (i6))]], [], .none, 0⟩⟩)
 (.done ⟨tm2 40 [(2, (.lp 2 0 0)), (6, (vI (i9))), (7, (vI (11))), (8, (.lp 8 0 0))], lm2 40 [(2, (0, [(vI (0)), (vS ((⟨#[]⟩ : ByteArray))), (.slice 0 [] .full), (.slice 0 [] .full)])), (8, (0, [(vI (i2)), (vS (s1)), (.slice 1 (l1) .no), (.slice 4 (l2) .no)]))], ⟨[[(.slice 4 (l3) .no), (vI (i3)), (vI (i4)), (vI (i5)), (vI (i6))]], [], .none, 0⟩⟩))))
 (.done ⟨tm2 40 [(2, (.lp 2 0 0)), (6, (vI (i9))), (7, (vI (11))), (8, (.lp 8 0 0))], lm2 40 [(2, (0, [(vI (0)), (vS ((⟨#[]⟩ : ByteArray))), (.slice 0 [] .full), (.slice 0 [] .full)])), (8, (0, [(vI (i2)), (vS (s1)), (.slice 1 (l1) .no), (.slice 4 (l2) .no)]))], ⟨[[(.slice 4 (l3) .no), (vI (i3)), (vI (i4)), (vI (i5)), (vI (i6))]], [], .none, 0⟩⟩))
 ((((((((((((((((((X_rTyS s).R l).I i).I i1).T.F.T.F.I i2).S s1).R l1).R l2).R l3).I i3).I i4).I i5).I i6).T.F.F.T.T.I i7).S s2).I i8).I i9).T.T.T.K)))))))))
 (.need true
 (.need true
 (.stage
 (.branch (11 == 0)
 (.exI fun i7 =>
 (.call f_waferref04_RightTy [(.agg [(vI (i2)), (vS (s1)), (.slice 1 (l1) .no), (.slice 4 (l2) .no)])] .none [[(.slice 4 (l3) .no), (vI (i3)), (vI (i4)), (vI (i5)), (vI (i6))]] ⟨(.ret (vI (i7))), .none, [[(.slice 4 (l3) .no), (vI (i3)), (vI (i4)), (vI (i5)), (vI (i6))]]⟩
 (.branch (i7 == 4)
 (.done ⟨tm2 40 [(2, (.lp 2 0 0)), (6, (vI (i3))), (7, (vI (4))), (8, (.lp 8 0 0))], lm2 40 [(2, (0, [(vI (0)), (vS ((⟨#[]⟩ : ByteArray))), (.slice 0 [] .full), (.slice 0 [] .full)])), (8, (0, [(vI (i2)), (vS (s1)), (.slice 1 (l1) .no), (.slice 4 (l2) .no)]))], ⟨[[(.slice 4 (l3) .no), (vI (i3)), (vI (i4)), (vI (i5)), (vI (i6))]], [], .none, 0⟩⟩)
 (.done ⟨tm2 40 [(2, (.lp 2 0 0)), (6, (vI (i3))), (7, (vI (11))), (8, (.lp 8 0 0))], lm2 40 [(2, (0, [(vI (0)), (vS ((⟨#[]⟩ : ByteArray))), (.slice 0 [] .full), (.slice 0 [] .full)])), (8, (0, [(vI (i2)), (vS (s1)), (.slice 1 (l1) .no), (.slice 4 (l2) .no)]))], ⟨[[(.slice 4 (l3) .no), (vI (i3)), (vI (i4)), (vI (i5)), (vI (i6))]], [], .none, 0⟩⟩))))
 (.done ⟨tm2 40 [(2, (.lp 2 0 0)), (6, (vI (i3))), (7, (vI (11))), (8, (.lp 8 0 0))], lm2 40 [(2, (0, [(vI (0)), (vS ((⟨#[]⟩ : ByteArray))), (.slice 0 [] .full), (.slice 0 [] .full)])), (8, (0, [(vI (i2)), (vS (s1)), (.slice 1 (l1) .no), (.slice 4 (l2) .no)]))], ⟨[[(.slice 4 (l3) .no), (vI (i3)), (vI (i4)), (vI (i5)), (vI (i6))]], [], .none, 0⟩⟩))
 ((((((((((((((X_rTyS s).R l).I i).I i1).T.F.T.F.I i2).S s1).R l1).R l2).R l3).I i3).I i4).I i5).I i6).T.F.F.T.F.T.T.K)))))
 (.need true
 (.stage
 (.branch (0 == 0)
 (.exI fun i7 =>
 (.call f_waferref04_RightTy [(.agg [(vI (i2)), (vS (s1)), (.slice 1 (l1) .no), (.slice 4 (l2) .no)])] .none [[(.slice 4 (l3) .no), (vI (i3)), (vI (i4)), (vI (i5)), (vI (i6))]] ⟨(.ret (vI (i7))), .none, [[(.slice 4 (l3) .no), (vI (i3)), (vI (i4)), (vI (i5)), (vI (i6))]]⟩
 (.branch (i7 == 4)
 (.done ⟨tm2 40 [(2, (.lp 2 0 0)), (6, (vI (0))), (7, (vI (4))), (8, (.lp 8 0 0))], lm2 40 [(2, (0, [(vI (0)), (vS ((⟨#[]⟩ : ByteArray))), (.slice 0 [] .full), (.slice 0 [] .full)])), (8, (0, [(vI (i2)), (vS (s1)), (.slice 1 (l1) .no), (.slice 4 (l2) .no)]))], ⟨[[(.slice 4 (l3) .no), (vI (i3)), (vI (i4)), (vI (i5)), (vI (i6))]], [], .none, 0⟩⟩)
 (.done ⟨tm2 40 [(2, (.lp 2 0 0)), (6, (vI (0))), (7, (vI (0))), (8, (.lp 8 0 0))], lm2 40 [(2, (0, [(vI (0)), (vS ((⟨#[]⟩ : ByteArray))), (.slice 0 [] .full), (.slice 0 [] .full)])), (8, (0, [(vI (i2)), (vS (s1)), (.slice 1 (l1) .no), (.slice 4 (l2) .no)]))], ⟨[[(.slice 4 (l3) .no), (vI (i3)), (vI (i4)), (vI (i5)), (vI (i6))]], [], .none, 0⟩⟩))))
 (.done ⟨tm2 40 [(2, (.lp 2 0 0)), (6, (vI (0))), (7, (vI (0))), (8, (.lp 8 0 0))], lm2 40 [(2, (0, [(vI (0)), (vS ((⟨#[]⟩ : ByteArray))), (.slice 0 [] .full), (.slice 0 [] .full)])), (8, (0, [(vI (i2)), (vS (s1)), (.slice 1 (l1) .no), (.slice 4 (l2) .no)]))], ⟨[[(.slice 4 (l3) .no), (vI (i3)), (vI (i4)), (vI (i5)), (vI (i6))]], [], .none, 0⟩⟩))
 ((((((((((((((X_rTyS s).R l).I i).I i1).T.F.T.F.I i2).S s1).R l1).R l2).R l3).I i3).I i4).I i5).I i6).T.F.F.F.T.K))))))))))))))))))))))) := by kernel_rfl
@[irreducible] noncomputable def X_rTySs6 (s : ByteArray) (l : List (List AV)) (i : Int) (i1 : Int) (i2 : Int) (s1 : ByteArray) (l1 : List (List AV)) (l2 : List (List AV)) (l3 : List (List AV)) (i3 : Int) (i4 : Int) (i5 : Int) (i6 : Int) (q6x0 : Int) : KT := (((((((((((((X_rTyS s).R l).I i).I i1).T.F.T.F.I i2).S s1).R l1).R l2).R l3).I i3).I i4).I i5).I i6).T.F.F.F.T.K ⟨tm2 40 [(2, (.lp 2 0 0)), (6, (vI (0))), (7, (vI (q6x0))), (8, (.lp 8 0 0))], lm2 40 [(2, (0, [(vI (0)), (vS ((⟨#[]⟩ : ByteArray))), (.slice 0 [] .full), (.slice 0 [] .full)])), (8, (0, [(vI (i2)), (vS (s1)), (.slice 1 (l1) .no), (.slice 4 (l2) .no)]))], ⟨[[(.slice 4 (l3) .no), (vI (i3)), (vI (i4)), (vI (i5)), (vI (i6))]], [], .none, 0⟩⟩
theorem X_rTySs6_eq (s : ByteArray) (l : List (List AV)) (i : Int) (i1 : Int) (i2 : Int) (s1 : ByteArray) (l1 : List (List AV)) (l2 : List (List AV)) (l3 : List (List AV)) (i3 : Int) (i4 : Int) (i5 : Int) (i6 : Int) (q6x0 : Int) : (((((((((((((X_rTyS s).R l).I i).I i1).T.F.T.F.I i2).S s1).R l1).R l2).R l3).I i3).I i4).I i5).I i6).T.F.F.F.T.K ⟨tm2 40 [(2, (.lp 2 0 0)), (6, (vI (0))), (7, (vI (q6x0))), (8, (.lp 8 0 0))], lm2 40 [(2, (0, [(vI (0)), (vS ((⟨#[]⟩ : ByteArray))), (.slice 0 [] .full), (.slice 0 [] .full)])), (8, (0, [(vI (i2)), (vS (s1)), (.slice 1 (l1) .no), (.slice 4 (l2) .no)]))], ⟨[[(.slice 4 (l3) .no), (vI (i3)), (vI (i4)), (vI (i5)), (vI (i6))]], [], .none, 0⟩⟩ =
 (.branch (q6x0 != 0)
 (.need (lowss 0 [])
 (.need (lowss 0 [])
 (.ret ⟨(.ret (.tuple [(.agg [(vI (0)), (vS ((⟨#[]⟩ : ByteArray))), (.slice 1 [] .no), (.slice 4 [] .no)]), (vI (0)), (vI (q6x0))])), .none, []⟩)))
 (.need (lowss 0 (l1))
 (.need (lowss 0 (l2))
 (.ret ⟨(.ret (.tuple [(.agg [(vI (i2)), (vS (s1)), (.slice 1 (l1) .no), (.slice 4 (l2) .no)]), (vI (0)), (vI (0))])), .none, []⟩)))) := by kernel_rfl
-- STAGE X_rTySs6: told for any #[q6x0]
@[irreducible] noncomputable def X_rTySs4 (s : ByteArray) (l : List (List AV)) (i : Int) (i1 : Int) (i2 : Int) (s1 : ByteArray) (l1 : List (List AV)) (l2 : List (List AV)) (l3 : List (List AV)) (i3 : Int) (i4 : Int) (i5 : Int) (i6 : Int) (i7 : Int) (s2 : ByteArray) (i8 : Int) (i9 : Int) (q4x0 : Int) : KT := (((((((((((((((((X_rTyS s).R l).I i).I i1).T.F.T.F.I i2).S s1).R l1).R l2).R l3).I i3).I i4).I i5).I i6).T.F.F.T.T.I i7).S s2).I i8).I i9).T.T.T.K ⟨tm2 40 [(2, (.lp 2 0 0)), (6, (vI (i9))), (7, (vI (q4x0))), (8, (.lp 8 0 0))], lm2 40 [(2, (0, [(vI (0)), (vS ((⟨#[]⟩ : ByteArray))), (.slice 0 [] .full), (.slice 0 [] .full)])), (8, (0, [(vI (i2)), (vS (s1)), (.slice 1 (l1) .no), (.slice 4 (l2) .no)]))], ⟨[[(.slice 4 (l3) .no), (vI (i3)), (vI (i4)), (vI (i5)), (vI (i6))]], [], .none, 0⟩⟩
theorem X_rTySs4_eq (s : ByteArray) (l : List (List AV)) (i : Int) (i1 : Int) (i2 : Int) (s1 : ByteArray) (l1 : List (List AV)) (l2 : List (List AV)) (l3 : List (List AV)) (i3 : Int) (i4 : Int) (i5 : Int) (i6 : Int) (i7 : Int) (s2 : ByteArray) (i8 : Int) (i9 : Int) (q4x0 : Int) : (((((((((((((((((X_rTyS s).R l).I i).I i1).T.F.T.F.I i2).S s1).R l1).R l2).R l3).I i3).I i4).I i5).I i6).T.F.F.T.T.I i7).S s2).I i8).I i9).T.T.T.K ⟨tm2 40 [(2, (.lp 2 0 0)), (6, (vI (i9))), (7, (vI (q4x0))), (8, (.lp 8 0 0))], lm2 40 [(2, (0, [(vI (0)), (vS ((⟨#[]⟩ : ByteArray))), (.slice 0 [] .full), (.slice 0 [] .full)])), (8, (0, [(vI (i2)), (vS (s1)), (.slice 1 (l1) .no), (.slice 4 (l2) .no)]))], ⟨[[(.slice 4 (l3) .no), (vI (i3)), (vI (i4)), (vI (i5)), (vI (i6))]], [], .none, 0⟩⟩ =
 (.branch (q4x0 != 0)
 (.need (lowss 0 [])
 (.need (lowss 0 [])
 (.ret ⟨(.ret (.tuple [(.agg [(vI (0)), (vS ((⟨#[]⟩ : ByteArray))), (.slice 1 [] .no), (.slice 4 [] .no)]), (vI (i9)), (vI (q4x0))])), .none, []⟩)))
 (.need (lowss 0 (l1))
 (.need (lowss 0 (l2))
 (.ret ⟨(.ret (.tuple [(.agg [(vI (i2)), (vS (s1)), (.slice 1 (l1) .no), (.slice 4 (l2) .no)]), (vI (0)), (vI (0))])), .none, []⟩)))) := by kernel_rfl
-- STAGE X_rTySs4: told for any #[q4x0]
@[irreducible] noncomputable def X_rTySs3 (s : ByteArray) (l : List (List AV)) (i : Int) (i1 : Int) (i2 : Int) (s1 : ByteArray) (l1 : List (List AV)) (l2 : List (List AV)) (l3 : List (List AV)) (i3 : Int) (i4 : Int) (i5 : Int) (i6 : Int) (q3x0 : Int) : KT := (((((((((((((X_rTyS s).R l).I i).I i1).T.F.T.F.I i2).S s1).R l1).R l2).R l3).I i3).I i4).I i5).I i6).T.F.T.T.K ⟨tm2 40 [(2, (.lp 2 0 0)), (6, (vI (i6))), (7, (vI (q3x0))), (8, (.lp 8 0 0))], lm2 40 [(2, (0, [(vI (0)), (vS ((⟨#[]⟩ : ByteArray))), (.slice 0 [] .full), (.slice 0 [] .full)])), (8, (0, [(vI (i2)), (vS (s1)), (.slice 1 (l1) .no), (.slice 4 (l2) .no)]))], ⟨[[(.slice 4 (l3) .no), (vI (i3)), (vI (i4)), (vI (i5)), (vI (i6))]], [], .none, 0⟩⟩
theorem X_rTySs3_eq (s : ByteArray) (l : List (List AV)) (i : Int) (i1 : Int) (i2 : Int) (s1 : ByteArray) (l1 : List (List AV)) (l2 : List (List AV)) (l3 : List (List AV)) (i3 : Int) (i4 : Int) (i5 : Int) (i6 : Int) (q3x0 : Int) : (((((((((((((X_rTyS s).R l).I i).I i1).T.F.T.F.I i2).S s1).R l1).R l2).R l3).I i3).I i4).I i5).I i6).T.F.T.T.K ⟨tm2 40 [(2, (.lp 2 0 0)), (6, (vI (i6))), (7, (vI (q3x0))), (8, (.lp 8 0 0))], lm2 40 [(2, (0, [(vI (0)), (vS ((⟨#[]⟩ : ByteArray))), (.slice 0 [] .full), (.slice 0 [] .full)])), (8, (0, [(vI (i2)), (vS (s1)), (.slice 1 (l1) .no), (.slice 4 (l2) .no)]))], ⟨[[(.slice 4 (l3) .no), (vI (i3)), (vI (i4)), (vI (i5)), (vI (i6))]], [], .none, 0⟩⟩ =
 (.branch (q3x0 != 0)
 (.need (lowss 0 [])
 (.need (lowss 0 [])
 (.ret ⟨(.ret (.tuple [(.agg [(vI (0)), (vS ((⟨#[]⟩ : ByteArray))), (.slice 1 [] .no), (.slice 4 [] .no)]), (vI (i6)), (vI (q3x0))])), .none, []⟩)))
 (.need (lowss 0 (l1))
 (.need (lowss 0 (l2))
 (.ret ⟨(.ret (.tuple [(.agg [(vI (i2)), (vS (s1)), (.slice 1 (l1) .no), (.slice 4 (l2) .no)]), (vI (0)), (vI (0))])), .none, []⟩)))) := by kernel_rfl
-- STAGE X_rTySs3: told for any #[q3x0]
theorem X_ParseTys_eq (s : ByteArray) : ktc7 f_waferlaw05_ParseTys [vS s] [] =
 (.exI fun i =>
 (.exS fun s1 =>
 (.exR fun l =>
 (.exR fun l1 =>
 (.exI fun i1 =>
 (.exI fun i2 =>
 (.call f_parsecore_Ty [(vS (s))] .none [] ⟨(.ret (.tuple [(.agg [(vI (i)), (vS (s1)), (.slice 1 (l) .no), (.slice 4 (l1) .no)]), (vI (i1)), (vI (i2))])), .none, []⟩
 (.exI fun i3 =>
 (.exS fun s2 =>
 (.exR fun l2 =>
 (.exR fun l3 =>
 (.exI fun i4 =>
 (.exI fun i5 =>
 (.call f_waferref05_Ty [(vS (s))] .none [] ⟨(.ret (.tuple [(.agg [(vI (i3)), (vS (s2)), (.slice 1 (l2) .no), (.slice 4 (l3) .no)]), (vI (i4)), (vI (i5))])), .none, []⟩
 (.branch (i1 == i4)
 (.branch (i2 == i5)
 (.exB fun b =>
 (.call f_waferref04_SameTy [(.agg [(vI (i)), (vS (s1)), (.slice 1 (l) .no), (.slice 4 (l1) .no)]), (.agg [(vI (i3)), (vS (s2)), (.slice 1 (l2) .no), (.slice 4 (l3) .no)])] .none [] ⟨(.ret (vB (b))), .none, []⟩
 (.branch (b)
 (.exB fun b1 =>
 (.call f_waferlaw05_alive [] .none [] ⟨(.ret (vB (b1))), .none, []⟩
 (.ret ⟨(.ret (vB (b1))), .none, []⟩)))
 (.ret ⟨(.ret (vB false)), .none, []⟩))))
 (.ret ⟨(.ret (vB false)), .none, []⟩))
 (.ret ⟨(.ret (vB false)), .none, []⟩)))))))))))))))) := by kernel_rfl
theorem X_alive_eq (s : ByteArray) : ktc7 f_waferlaw05_alive [] [] =
 (.exI fun i =>
 (.exI fun i1 =>
 (.exI fun i2 =>
 (.exR fun l =>
 (.exR fun l1 =>
 (.exR fun l2 =>
 (.exR fun l3 =>
 (.exR fun l4 =>
 (.exI fun i3 =>
 (.exI fun i4 =>
 (.call f_parsecore_Exp [(vS ((⟨#[102, 32, 120, 32, 43, 32, 49]⟩ : ByteArray)))] .none [] ⟨(.ret (.tuple [(.agg [(vI (i)), (vI (i1)), (vI (i2)), (.slice 1 (l) .no), (.slice 5 (l1) .no), (.slice 8 (l2) .no), (.slice 9 (l3) .no), (.slice 4 (l4) .no)]), (vI (i3)), (vI (i4))])), .none, []⟩
 (.exI fun i5 =>
 (.exI fun i6 =>
 (.exI fun i7 =>
 (.exR fun l5 =>
 (.exR fun l6 =>
 (.exR fun l7 =>
 (.exR fun l8 =>
 (.exR fun l9 =>
 (.exI fun i8 =>
 (.exI fun i9 =>
 (.call f_parsecore_Exp [(vS ((⟨#[97, 32, 60, 32, 98, 32, 60, 32, 99]⟩ : ByteArray)))] .none [] ⟨(.ret (.tuple [(.agg [(vI (i5)), (vI (i6)), (vI (i7)), (.slice 1 (l5) .no), (.slice 5 (l6) .no), (.slice 8 (l7) .no), (.slice 9 (l8) .no), (.slice 4 (l9) .no)]), (vI (i8)), (vI (i9))])), .none, []⟩
 (.exI fun i10 =>
 (.exS fun s1 =>
 (.exR fun l10 =>
 (.exR fun l11 =>
 (.exI fun i11 =>
 (.exI fun i12 =>
 (.call f_parsecore_Ty [(vS ((⟨#[105, 110, 116, 32, 42, 32, 98, 111, 111, 108, 32, 45, 62, 32, 39, 97]⟩ : ByteArray)))] .none [] ⟨(.ret (.tuple [(.agg [(vI (i10)), (vS (s1)), (.slice 1 (l10) .no), (.slice 4 (l11) .no)]), (vI (i11)), (vI (i12))])), .none, []⟩
 (.branch (i4 == 0)
 (.branch (i == 13)
 (.branch (i1 == 1)
 (.branch ((↑l2.length : Int) == 2)
 (.exI fun i13 =>
 (.exI fun i14 =>
 (.exI fun i15 =>
 (.exR fun l12 =>
 (.exR fun l13 =>
 (.exR fun l14 =>
 (.exR fun l15 =>
 (.exR fun l16 =>
 (.row (l2) (0) [(vI (i13)), (vI (i14)), (vI (i15)), (.slice 1 (l12) .no), (.slice 5 (l13) .no), (.slice 8 (l14) .no), (.slice 9 (l15) .no), (.slice 4 (l16) .no)]
 (.branch (i13 == 8)
 (.branch (i9 == 11)
 (.branch (i8 == 6)
 (.branch (i12 == 0)
 (.ret ⟨(.ret (vB (i10 == 3))), .none, []⟩)
 (.ret ⟨(.ret (vB false)), .none, []⟩))
 (.ret ⟨(.ret (vB false)), .none, []⟩))
 (.ret ⟨(.ret (vB false)), .none, []⟩))
 (.ret ⟨(.ret (vB false)), .none, []⟩)))))))))))
 (.ret ⟨(.ret (vB false)), .none, []⟩))
 (.ret ⟨(.ret (vB false)), .none, []⟩))
 (.ret ⟨(.ret (vB false)), .none, []⟩))
 (.ret ⟨(.ret (vB false)), .none, []⟩))))))))))))))))))))))))))))))) := by kernel_rfl
end Go.Proofs
end

section
/- PARSE: the chapter's examples come -/
set_option linter.unusedVariables false
set_option linter.unusedSimpArgs false
set_option maxRecDepth 100000
open Go Go.Eng
namespace Go.Proofs
theorem alive5 : evp f_waferlaw05_alive [] .none [] = some ⟨.ret (vB true), .none, []⟩ := by
  refine ktc7_ev (wp_eq2 (X_alive_eq ⟨#[]⟩) ⟨_, _, _, _, _, _, _, _, _, _, a_A, _, _, _, _, _, _, _, _, _, _, a_B, _, _, _, _, _, _, a_C, ?_⟩)
  exact wp_if2 (fun _ => wp_if2 (fun _ => wp_if2 (fun _ => wp_if2 (fun _ => ⟨_, _, _, _, _, _, _, _, ⟨Int.le_refl _, rfl⟩, wp_if2 (fun _ => wp_if2 (fun _ => wp_if2 (fun _ => wp_if2 (fun _ => rfl) (fun h => absurd h (by decide))) (fun h => absurd h (by decide))) (fun h => absurd h (by decide))) (fun h => absurd h (by decide))⟩) (fun h => absurd h (by decide))) (fun h => absurd h (by decide))) (fun h => absurd h (by decide))) (fun h => absurd h (by decide))
end Go.Proofs
end
