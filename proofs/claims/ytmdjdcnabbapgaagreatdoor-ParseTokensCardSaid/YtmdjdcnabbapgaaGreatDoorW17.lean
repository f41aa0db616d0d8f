/- Texts of this proof folded into one: TX T4a T4b. -/
import Derived.Test.YtmdjdcnabbapgaaGreatDoorW16
import Derived.Test.YtmdjdcnabbapgaaGreatDoorW7
section
/- the checks' trees (printed by gen_x.py and kt.py) -/
open Go Go.Eng
open IntKind (wrap)
namespace Go.Proofs.Ck
set_option linter.unusedVariables false
set_option maxRecDepth 100000
@[irreducible] noncomputable def l1s (l:List (List AV)):KT:=kt2 a1m [.slice 4 l .no,.func (.func a1F) [] []] []
@[irreducible] noncomputable def j1t (l:List (List AV)):KT:=kt2 a1S [.slice 5 l .no,.func (.func b1n) [] []] []
@[irreducible] noncomputable def j1u (l:List (List AV)):KT:=kt2 a1N [.slice 8 l .no,.func (.func b1c) [] []] []
@[irreducible] noncomputable def j1v (l:List (List AV)):KT:=kt2 a1O [.slice 2 l .no,.func (.func b1y) [] []] []
@[irreducible] noncomputable def j1w (l:List (List AV)):KT:=kt2 a1x [.slice 9 l .no,.func (.func b1x) [] []] []
@[irreducible] noncomputable def h1u (l:List (List AV)):KT:=kt2 a1x [.slice 9 l .no,.func (.func b1s) [] []] []
@[irreducible] noncomputable def j1x (l:List (List AV)):KT:=kt2 a1P [.slice 5 l .no,.func (.func b1t) [] []] []
@[irreducible] noncomputable def j1y (l:List (List AV)):KT:=kt2 a1w [.slice 5 l .no,.func (.func a1Y) [] []] []
@[irreducible] noncomputable def h1v (l:List (List AV)):KT:=kt2 a1K [.slice 6 l .no,.func (.func b1F) [] []] []
@[irreducible] noncomputable def e1O (l:List (List AV)):KT:=kt2 b1b [.slice 1 l .no,.func (.func a1G) [] []] []
@[irreducible] noncomputable def e1z (l:List (List AV)):KT:=kt2 b1b [.slice 1 l .no,.func (.func a1A) [] []] []
@[irreducible] noncomputable def w1P (s:ByteArray):KT:=(kt2 b1Z [vS s] []).K (zkS 52 [(0,vS s)] [] [] 0)
@[irreducible] noncomputable def w1Q (s:ByteArray):KT:=(kt2 d1V [vS s] []).K (zkS 35 [(0,vS s)] [] [] 0)
@[irreducible] noncomputable def d2w (p:List (List AV)):KT:=(kt2 c1Q [.slice 1 p .no] []).F.F
theorem f2G (c:UInt8):kt2 d1X [AV.val (Value.int IntKind.u8 (↑c.toNat:Int))] []=
 .branch (decide ((↑c.toNat:Int)≥97)) (.need true (.ret (zkR (vB (decide ((↑c.toNat:Int)≤122))) []))) (.need true (.ret (zkR (vB false) []))):=by kernel_rfl
theorem d2x (c:UInt8):kt2 d1L [AV.val (Value.int IntKind.u8 (↑c.toNat:Int))] []=
 .branch (decide ((↑c.toNat:Int)≥65)) (.need true (.ret (zkR (vB (decide ((↑c.toNat:Int)≤90))) []))) (.need true (.ret (zkR (vB false) []))):=by kernel_rfl
theorem z1R (c:UInt8):kt2 e1F [AV.val (Value.int IntKind.u8 (↑c.toNat:Int))] []=
 .branch (decide ((↑c.toNat:Int)≥48)) (.need true (.ret (zkR (vB (decide ((↑c.toNat:Int)≤57))) []))) (.need true (.ret (zkR (vB false) []))):=by kernel_rfl
theorem X_Reserved_eq (s:ByteArray):kt2 b1X [vS s] []=
 .branch (s.toList==zkb7.toList) (.need true (.ret (zkR (vB true) []))) (.branch (s.toList==zkb8.toList) (.need true (.ret (zkR (vB true) []))) (.branch (s.toList==zkb9.toList) (.need true (.ret (zkR (vB true) []))) (.branch (s.toList==h2m.toList) (.need true (.ret (zkR (vB true) []))) (.branch (s.toList==z1e.toList) (.need true (.ret (zkR (vB true) []))) (.branch (s.toList==z1d.toList) (.need true (.ret (zkR (vB true) []))) (.branch (s.toList==h2l.toList) (.need true (.ret (zkR (vB true) []))) (.branch (s.toList==e2O.toList) (.need true (.ret (zkR (vB true) []))) (.branch (s.toList==i2U.toList) (.need true (.ret (zkR (vB true) []))) (.branch (s.toList==h2k.toList) (.need true (.ret (zkR (vB true) []))) (.branch (s.toList==e2N.toList) (.need true (.ret (zkR (vB true) []))) (.branch (s.toList==z1c.toList) (.need true (.ret (zkR (vB true) []))) (.branch (s.toList==e2M.toList) (.need true (.ret (zkR (vB true) []))) (.branch (s.toList==h2j.toList) (.need true (.ret (zkR (vB true) []))) (.branch (s.toList==i2T.toList) (.need true (.ret (zkR (vB true) []))) (.branch (s.toList==i2S.toList) (.need true (.ret (zkR (vB true) []))) (.branch (s.toList==i2R.toList) (.need true (.ret (zkR (vB true) []))) (.branch (s.toList==i2Q.toList) (.need true (.ret (zkR (vB true) []))) (.branch (s.toList==h2i.toList) (.need true (.ret (zkR (vB true) []))) (.branch (s.toList==z1b.toList) (.need true (.ret (zkR (vB true) []))) (.branch (s.toList==i2P.toList) (.need true (.ret (zkR (vB true) []))) (.branch (s.toList==z1a.toList) (.need true (.ret (zkR (vB true) []))) (.branch (s.toList==e2L.toList) (.need true (.ret (zkR (vB true) []))) (.branch (s.toList==i2O.toList) (.need true (.ret (zkR (vB true) []))) (.need true (.ret (zkR (vB false) [])))))))))))))))))))))))))):=by kernel_rfl
@[irreducible] noncomputable def d2y (s:ByteArray):KT:=kt2 b1Z [vS s] []
theorem z1S (s:ByteArray):kt2 b1Z [vS s] []=
 .stage (.branch (s.toList==zkb2.toList) (.out (.need true (.ret (zkR (vI 12) [])))) (.exY fun y=>.byte s 0 y (zk5 d1X [(.val (.int .u8 ((↑y.toNat:Int))))] [] (fun b=>.branch (!b) (.exY fun y1=>.byte s 0 y1 (zk5 d1L [(.val (.int .u8 ((↑y1.toNat:Int))))] [] (fun b1=>.branch (!b1) (.out (.need true (.ret (zkR (vI 12) [])))) (.done (zkS 52 [(0,vS s)] [] [] 0))))) (.done (zkS 52 [(0,vS s)] [] [] 0)))))) ((d2y s).K):=by kernel_rfl
@[irreducible] noncomputable def d2z (s:ByteArray):KT:=kt2 d1V [vS s] []
theorem z1T (s:ByteArray):kt2 d1V [vS s] []=
 .stage (.branch (s.toList==zkb2.toList) (.out (.need true (.ret (zkR (vB false) [])))) (.branch (decide ((↑s.size:Int)≥32)) (.out (.need true (.ret (zkR (vB false) [])))) (.exY fun y=>.byte s 0 y (zk5 d1X [(.val (.int .u8 ((↑y.toNat:Int))))] [] (fun b=>.branch (!b) (.out (.need true (.ret (zkR (vB false) [])))) (.done (zkS 35 [(0,vS s)] [] [] 0))))))) ((d2z s).K):=by kernel_rfl
theorem z1U (s:ByteArray):kt2 e1D [vS s] []=
 zk16 b1Z [vS s] [] (fun i=>.branch (i==0) (.exY fun y=>.byte s 0 y (zk5 d1X [(.val (.int .u8 ((↑y.toNat:Int))))] [] (fun b=>.need true (.ret (zkR (vB b) []))))) (.need true (.ret (zkR (vB false) [])))):=by kernel_rfl
theorem z1V (s:ByteArray):kt2 e1E [vS s] []=
 zk16 b1Z [vS s] [] (fun i=>.branch (i==0) (.exY fun y=>.byte s 0 y (zk5 d1L [(.val (.int .u8 ((↑y.toNat:Int))))] [] (fun b=>.need true (.ret (zkR (vB b) []))))) (.need true (.ret (zkR (vB false) [])))):=by kernel_rfl
@[irreducible] noncomputable def g2F (p:List (List AV)):KT:=kt2 c1Q [AV.slice 1 p Own.no] []
theorem d2A (p):kt2 c1Q [AV.slice 1 p Own.no] []=
 .branch ((↑p.length:Int)==0) (.need true (.ret (zkR (vI 1) []))) (.branch (decide ((↑p.length:Int)>8)) (.need true (.ret (zkR (vI 3) []))) ((g2F p).F.F)):=by kernel_rfl
theorem f2H (b:Bool):kt2 a1b [vB b] []=
 .branch (!b) (.need true (.need true (.ret (zkQ (.iface a1a (vI 1)) [])))) (.need true (.ret (zkR (.tuple []) []))):=by kernel_rfl
theorem z1W (n l m):kt2 b1O [vI n,vI l,vI m] []=
 .branch (decide (n≥l)) (.branch (decide (m<0)) (.alt (zk3 a1b [vB true] [] (.need true (.ret (zkR (.tuple []) [])))) (.exI fun i=>zk2 a1b [vB true] [] (.iface a1a (vI i)) (.need true (.ret (zkQ (.iface a1a (vI i)) []))))) (.alt (zk3 a1b [vB (decide (n≤m))] [] (.need true (.ret (zkR (.tuple []) [])))) (.exI fun i=>zk2 a1b [vB (decide (n≤m))] [] (.iface a1a (vI i)) (.need true (.ret (zkQ (.iface a1a (vI i)) [])))))) (.alt (zk3 a1b [vB false] [] (.need true (.ret (zkR (.tuple []) [])))) (.exI fun i=>zk2 a1b [vB false] [] (.iface a1a (vI i)) (.need true (.ret (zkQ (.iface a1a (vI i)) []))))):=by kernel_rfl
theorem z1X (k):kt2 f1l [vI k] []=
 .branch (k==7) (.need true (.ret (zkR (.tuple [vI 1,vI 1,vI 0]) []))) (.branch (k==8) (.need true (.ret (zkR (.tuple [vI 0,vI 2,vI 0]) []))) (.branch (k==9) (.need true (.ret (zkR (.tuple [vI 0,vI 2,vI 0]) []))) (.branch (k==13) (.need true (.ret (zkR (.tuple [vI 0,vI 2,vI 0]) []))) (.branch (k==10) (.need true (.ret (zkR (.tuple [vI 0,vI 1,vI 0]) []))) (.branch (k==11) (.need true (.ret (zkR (.tuple [vI 0,vI 3,vI 0]) []))) (.branch (k==12) (.need true (.ret (zkR (.tuple [vI (-1),vI (-1),vI 0]) []))) (.branch (k==14) (.need true (.ret (zkR (.tuple [vI 0,vI 1,vI 1]) []))) (.need true (.ret (zkR (.tuple [vI 0,vI 0,vI 0]) [])))))))))):=by kernel_rfl
theorem v1o (s:ByteArray):kt2 a1G [vS s] []=
 zk16 b1Z [vS s] [] (fun i=>.branch (i !=0) (.need true (.need true (.ret (zkQ (.iface a1a (vI i)) [])))) (.need true (zk5 e1D [vS s] [] (fun b=>.branch (!b) (.need true (.need true (.ret (zkQ (.iface a1a (vI 12)) [])))) (.need true (.ret (zkR (.tuple []) []))))))):=by kernel_rfl
theorem s1Z (s:ByteArray):kt2 a1A [vS s] []=
 zk16 b1Z [vS s] [] (fun i=>.branch (i !=0) (.need true (.need true (.ret (zkQ (.iface a1a (vI i)) [])))) (.need true (zk5 e1E [vS s] [] (fun b=>.branch (!b) (.need true (.need true (.ret (zkQ (.iface a1a (vI 12)) [])))) (.need true (.ret (zkR (.tuple []) []))))))):=by kernel_rfl
theorem v1p (p):kt2 c1k [AV.slice 1 p Own.no] []=
 zk16 c1Q [zkN 1 p] [] (fun i=>.branch (i !=0) (.need true (.need true (.ret (zkQ (.iface a1a (vI i)) [])))) (.need true (.exS fun s=>.row p (IntKind.i64.wrap ((↑p.length:Int)-1)) [vS s] (zk5 e1D [vS s] [] (fun b=>.branch (!b) (.need true (.need true (.ret (zkQ (.iface a1a (vI 12)) [])))) (.need true (.ret (zkR (.tuple []) [])))))))):=by kernel_rfl
theorem t1a (p):kt2 b1J [AV.slice 1 p Own.no] []=
 zk16 c1Q [zkN 1 p] [] (fun i=>.branch (i !=0) (.need true (.need true (.ret (zkQ (.iface a1a (vI i)) [])))) (.need true (.exS fun s=>.row p (IntKind.i64.wrap ((↑p.length:Int)-1)) [vS s] (zk5 e1E [vS s] [] (fun b=>.branch (!b) (.need true (.need true (.ret (zkQ (.iface a1a (vI 12)) [])))) (.need true (.ret (zkR (.tuple []) [])))))))):=by kernel_rfl
theorem z1Y (p):kt2 g1v [AV.slice 1 p Own.no] []=
 .branch ((↑p.length:Int)==1) (.exS fun s=>.row p 0 [vS s] (.branch (s.toList==z1c.toList) (.need true (.ret (zkR (vB true) []))) (.exS fun s1=>.row p 0 [vS s1] (.branch (s1.toList==zkb7.toList) (.need true (.ret (zkR (vB true) []))) (.exS fun s2=>.row p 0 [vS s2] (.need true (.ret (zkR (vB (s2.toList==z1a.toList)) [])))))))) (.need true (.ret (zkR (vB false) []))):=by kernel_rfl
@[irreducible] noncomputable def X_Ty (k:Int) (n:ByteArray) (p a:List (List AV)):KT:=kt2 a1F [AV.agg [vI k,vS n,AV.slice 1 p Own.no,AV.slice 4 a Own.no]] []
theorem X_Ty_eq (k) (n:ByteArray) (p a):kt2 a1F [AV.agg [vI k,vS n,AV.slice 1 p Own.no,AV.slice 4 a Own.no]] []=
 .stage (.branch (decide (k≥1)) (.alt (zk3 a1b [vB (decide (k≤4))] [] (.done (zkS 69 [(1,(.ref [(vI k),(vS n),(.slice 1 p .no),(.slice 4 a .no)]))] [] [] 0))) (.exI fun i=>zk2 a1b [vB (decide (k≤4))] [] (.iface a1a (vI i)) (.out (.need true (.ret (zkQ (.iface a1a (vI i)) [])))))) (.alt (zk3 a1b [vB false] [] (.done (zkS 69 [(1,(.ref [(vI k),(vS n),(.slice 1 p .no),(.slice 4 a .no)]))] [] [] 0))) (.exI fun i=>zk2 a1b [vB false] [] (.iface a1a (vI i)) (.out (.need true (.ret (zkQ (.iface a1a (vI i)) []))))))) ((X_Ty k n p a).K):=by kernel_rfl
@[irreducible] noncomputable def y1a (k:Int) (n:ByteArray) (p a:List (List AV)):KT:=(X_Ty k n p a).K (zkS 69 [(1,(.ref [(vI k),(vS n),(.slice 1 p .no),(.slice 4 a .no)]))] [] [] 0)
theorem d2B (k) (n:ByteArray) (p a):(X_Ty k n p a).K (zkS 69 [(1,(.ref [(vI k),(vS n),(.slice 1 p .no),(.slice 4 a .no)]))] [] [] 0)=
 .stage (.branch (k==1) (.branch (k==2) (.alt (zk3 a1b [vB true] [] (.done (zkS 69 [(1,(.ref [(vI k),(vS n),(.slice 1 p .no),(.slice 4 a .no)]))] [] [] 0))) (.exI fun i=>zk2 a1b [vB true] [] (.iface a1a (vI i)) (.out (.need true (.ret (zkQ (.iface a1a (vI i)) [])))))) (.alt (zk3 a1b [vB ((↑p.length:Int)==0)] [] (.done (zkS 69 [(1,(.ref [(vI k),(vS n),(.slice 1 p .no),(.slice 4 a .no)]))] [] [] 0))) (.exI fun i=>zk2 a1b [vB ((↑p.length:Int)==0)] [] (.iface a1a (vI i)) (.out (.need true (.ret (zkQ (.iface a1a (vI i)) []))))))) (.branch (n.toList==zkb2.toList) (.branch (k==2) (.alt (zk3 a1b [vB true] [] (.done (zkS 69 [(1,(.ref [(vI k),(vS n),(.slice 1 p .no),(.slice 4 a .no)]))] [] [] 0))) (.exI fun i=>zk2 a1b [vB true] [] (.iface a1a (vI i)) (.out (.need true (.ret (zkQ (.iface a1a (vI i)) [])))))) (.alt (zk3 a1b [vB ((↑p.length:Int)==0)] [] (.done (zkS 69 [(1,(.ref [(vI k),(vS n),(.slice 1 p .no),(.slice 4 a .no)]))] [] [] 0))) (.exI fun i=>zk2 a1b [vB ((↑p.length:Int)==0)] [] (.iface a1a (vI i)) (.out (.need true (.ret (zkQ (.iface a1a (vI i)) []))))))) (.alt (zk3 a1b [vB false] [] (.done (zkS 69 [(1,(.ref [(vI k),(vS n),(.slice 1 p .no),(.slice 4 a .no)]))] [] [] 0))) (.exI fun i=>zk2 a1b [vB false] [] (.iface a1a (vI i)) (.out (.need true (.ret (zkQ (.iface a1a (vI i)) [])))))))) ((y1a k n p a).K):=by kernel_rfl
@[irreducible] noncomputable def y1b (k:Int) (n:ByteArray) (p a:List (List AV)):KT:=(y1a k n p a).K (zkS 69 [(1,(.ref [(vI k),(vS n),(.slice 1 p .no),(.slice 4 a .no)]))] [] [] 0)
theorem d2C (k) (n:ByteArray) (p a):(y1a k n p a).K (zkS 69 [(1,(.ref [(vI k),(vS n),(.slice 1 p .no),(.slice 4 a .no)]))] [] [] 0)=
 .stage (.branch (decide (k≥3)) (.alt (zk3 a1b [vB ((↑a.length:Int)==2)] [] (.done (zkS 69 [(1,(.ref [(vI k),(vS n),(.slice 1 p .no),(.slice 4 a .no)]))] [] [] 0))) (.exI fun i=>zk2 a1b [vB ((↑a.length:Int)==2)] [] (.iface a1a (vI i)) (.out (.need true (.ret (zkQ (.iface a1a (vI i)) [])))))) (.alt (zk3 a1b [vB ((↑a.length:Int)==0)] [] (.done (zkS 69 [(1,(.ref [(vI k),(vS n),(.slice 1 p .no),(.slice 4 a .no)]))] [] [] 0))) (.exI fun i=>zk2 a1b [vB ((↑a.length:Int)==0)] [] (.iface a1a (vI i)) (.out (.need true (.ret (zkQ (.iface a1a (vI i)) []))))))) ((y1b k n p a).K):=by kernel_rfl
@[irreducible] noncomputable def d2D (k:Int) (n:ByteArray) (p a:List (List AV)):KT:=(y1b k n p a).K (zkS 69 [(1,(.ref [(vI k),(vS n),(.slice 1 p .no),(.slice 4 a .no)]))] [] [] 0)
theorem d2E (k) (n:ByteArray) (p a):(y1b k n p a).K (zkS 69 [(1,(.ref [(vI k),(vS n),(.slice 1 p .no),(.slice 4 a .no)]))] [] [] 0)=
 .stage (.branch (k==1) (zk5 d1V [vS n] [] (fun b=>.branch (!b) (.need true (.out (.need true (.ret (zkQ (.iface a1a (vI 12)) []))))) (.done (zkS 69 [(1,(.ref [(vI k),(vS n),(.slice 1 p .no),(.slice 4 a .no)]))] [] [] 0)))) (.done (zkS 69 [(1,(.ref [(vI k),(vS n),(.slice 1 p .no),(.slice 4 a .no)]))] [] [] 0))) ((d2D k n p a).K):=by kernel_rfl
theorem d2F (k) (n:ByteArray) (p a):(d2D k n p a).K (zkS 69 [(1,(.ref [(vI k),(vS n),(.slice 1 p .no),(.slice 4 a .no)]))] [] [] 0)=
 .branch (k==2) (zk5 g1v [zkN 1 p] [] (fun b=>.branch (!b) (.alt (zk3 c1k [zkN 1 p] [] (.alt (zk3 a1m [zkN 4 a,(.func (.func a1F) [] [])] [] (.need true (.ret (zkR (.tuple []) [])))) (.exI fun i=>zk2 a1m [zkN 4 a,(.func (.func a1F) [] [])] [] (.iface a1a (vI i)) (.need true (.ret (zkQ (.iface a1a (vI i)) [])))))) (.exI fun i=>zk2 c1k [zkN 1 p] [] (.iface a1a (vI i)) (.need true (.ret (zkQ (.iface a1a (vI i)) []))))) (.alt (zk3 a1m [zkN 4 a,(.func (.func a1F) [] [])] [] (.need true (.ret (zkR (.tuple []) [])))) (.exI fun i=>zk2 a1m [zkN 4 a,(.func (.func a1F) [] [])] [] (.iface a1a (vI i)) (.need true (.ret (zkQ (.iface a1a (vI i)) []))))))) (.alt (zk3 a1m [zkN 4 a,(.func (.func a1F) [] [])] [] (.need true (.ret (zkR (.tuple []) [])))) (.exI fun i=>zk2 a1m [zkN 4 a,(.func (.func a1F) [] [])] [] (.iface a1a (vI i)) (.need true (.ret (zkQ (.iface a1a (vI i)) []))))):=by kernel_rfl
@[irreducible] noncomputable def f2I (k:Int) (n:ByteArray) (p:List (List AV)) (m:Int) (a:List (List AV)):KT:=kt2 b1n [AV.agg [vI k,vS n,AV.slice 1 p Own.no,vI m,AV.slice 5 a Own.no]] []
theorem f2J (k) (n:ByteArray) (p m a):kt2 b1n [AV.agg [vI k,vS n,AV.slice 1 p Own.no,vI m,AV.slice 5 a Own.no]] []=
 .stage (.branch (decide (k≥1)) (.alt (zk3 a1b [vB (decide (k≤8))] [] (.done (zkS 82 [(1,(.ref [(vI k),(vS n),(.slice 1 p .no),(vI m),(.slice 5 a .no)]))] [] [] 0))) (.exI fun i=>zk2 a1b [vB (decide (k≤8))] [] (.iface a1a (vI i)) (.out (.need true (.ret (zkQ (.iface a1a (vI i)) [])))))) (.alt (zk3 a1b [vB false] [] (.done (zkS 82 [(1,(.ref [(vI k),(vS n),(.slice 1 p .no),(vI m),(.slice 5 a .no)]))] [] [] 0))) (.exI fun i=>zk2 a1b [vB false] [] (.iface a1a (vI i)) (.out (.need true (.ret (zkQ (.iface a1a (vI i)) []))))))) ((f2I k n p m a).K):=by kernel_rfl
@[irreducible] noncomputable def t1b (k:Int) (n:ByteArray) (p:List (List AV)) (m:Int) (a:List (List AV)):KT:=(f2I k n p m a).K (zkS 82 [(1,(.ref [(vI k),(vS n),(.slice 1 p .no),(vI m),(.slice 5 a .no)]))] [] [] 0)
theorem z1Z (k) (n:ByteArray) (p m a):(f2I k n p m a).K (zkS 82 [(1,(.ref [(vI k),(vS n),(.slice 1 p .no),(vI m),(.slice 5 a .no)]))] [] [] 0)=
 .stage (.branch (k==2) (.branch (k==8) (.branch (k==3) (.alt (zk3 a1b [vB (decide (m≥0))] [] (.done (zkS 82 [(1,(.ref [(vI k),(vS n),(.slice 1 p .no),(vI m),(.slice 5 a .no)]))] [] [] 0))) (.exI fun i=>zk2 a1b [vB (decide (m≥0))] [] (.iface a1a (vI i)) (.out (.need true (.ret (zkQ (.iface a1a (vI i)) [])))))) (.branch (m==0) (.alt (zk3 a1b [vB (decide (m≥0))] [] (.done (zkS 82 [(1,(.ref [(vI k),(vS n),(.slice 1 p .no),(vI m),(.slice 5 a .no)]))] [] [] 0))) (.exI fun i=>zk2 a1b [vB (decide (m≥0))] [] (.iface a1a (vI i)) (.out (.need true (.ret (zkQ (.iface a1a (vI i)) [])))))) (.alt (zk3 a1b [vB false] [] (.done (zkS 82 [(1,(.ref [(vI k),(vS n),(.slice 1 p .no),(vI m),(.slice 5 a .no)]))] [] [] 0))) (.exI fun i=>zk2 a1b [vB false] [] (.iface a1a (vI i)) (.out (.need true (.ret (zkQ (.iface a1a (vI i)) [])))))))) (.branch ((↑p.length:Int)==0) (.branch (k==3) (.alt (zk3 a1b [vB (decide (m≥0))] [] (.done (zkS 82 [(1,(.ref [(vI k),(vS n),(.slice 1 p .no),(vI m),(.slice 5 a .no)]))] [] [] 0))) (.exI fun i=>zk2 a1b [vB (decide (m≥0))] [] (.iface a1a (vI i)) (.out (.need true (.ret (zkQ (.iface a1a (vI i)) [])))))) (.branch (m==0) (.alt (zk3 a1b [vB (decide (m≥0))] [] (.done (zkS 82 [(1,(.ref [(vI k),(vS n),(.slice 1 p .no),(vI m),(.slice 5 a .no)]))] [] [] 0))) (.exI fun i=>zk2 a1b [vB (decide (m≥0))] [] (.iface a1a (vI i)) (.out (.need true (.ret (zkQ (.iface a1a (vI i)) [])))))) (.alt (zk3 a1b [vB false] [] (.done (zkS 82 [(1,(.ref [(vI k),(vS n),(.slice 1 p .no),(vI m),(.slice 5 a .no)]))] [] [] 0))) (.exI fun i=>zk2 a1b [vB false] [] (.iface a1a (vI i)) (.out (.need true (.ret (zkQ (.iface a1a (vI i)) [])))))))) (.alt (zk3 a1b [vB false] [] (.done (zkS 82 [(1,(.ref [(vI k),(vS n),(.slice 1 p .no),(vI m),(.slice 5 a .no)]))] [] [] 0))) (.exI fun i=>zk2 a1b [vB false] [] (.iface a1a (vI i)) (.out (.need true (.ret (zkQ (.iface a1a (vI i)) [])))))))) (.branch (n.toList==zkb2.toList) (.branch (k==8) (.branch (k==3) (.alt (zk3 a1b [vB (decide (m≥0))] [] (.done (zkS 82 [(1,(.ref [(vI k),(vS n),(.slice 1 p .no),(vI m),(.slice 5 a .no)]))] [] [] 0))) (.exI fun i=>zk2 a1b [vB (decide (m≥0))] [] (.iface a1a (vI i)) (.out (.need true (.ret (zkQ (.iface a1a (vI i)) [])))))) (.branch (m==0) (.alt (zk3 a1b [vB (decide (m≥0))] [] (.done (zkS 82 [(1,(.ref [(vI k),(vS n),(.slice 1 p .no),(vI m),(.slice 5 a .no)]))] [] [] 0))) (.exI fun i=>zk2 a1b [vB (decide (m≥0))] [] (.iface a1a (vI i)) (.out (.need true (.ret (zkQ (.iface a1a (vI i)) [])))))) (.alt (zk3 a1b [vB false] [] (.done (zkS 82 [(1,(.ref [(vI k),(vS n),(.slice 1 p .no),(vI m),(.slice 5 a .no)]))] [] [] 0))) (.exI fun i=>zk2 a1b [vB false] [] (.iface a1a (vI i)) (.out (.need true (.ret (zkQ (.iface a1a (vI i)) [])))))))) (.branch ((↑p.length:Int)==0) (.branch (k==3) (.alt (zk3 a1b [vB (decide (m≥0))] [] (.done (zkS 82 [(1,(.ref [(vI k),(vS n),(.slice 1 p .no),(vI m),(.slice 5 a .no)]))] [] [] 0))) (.exI fun i=>zk2 a1b [vB (decide (m≥0))] [] (.iface a1a (vI i)) (.out (.need true (.ret (zkQ (.iface a1a (vI i)) [])))))) (.branch (m==0) (.alt (zk3 a1b [vB (decide (m≥0))] [] (.done (zkS 82 [(1,(.ref [(vI k),(vS n),(.slice 1 p .no),(vI m),(.slice 5 a .no)]))] [] [] 0))) (.exI fun i=>zk2 a1b [vB (decide (m≥0))] [] (.iface a1a (vI i)) (.out (.need true (.ret (zkQ (.iface a1a (vI i)) [])))))) (.alt (zk3 a1b [vB false] [] (.done (zkS 82 [(1,(.ref [(vI k),(vS n),(.slice 1 p .no),(vI m),(.slice 5 a .no)]))] [] [] 0))) (.exI fun i=>zk2 a1b [vB false] [] (.iface a1a (vI i)) (.out (.need true (.ret (zkQ (.iface a1a (vI i)) [])))))))) (.alt (zk3 a1b [vB false] [] (.done (zkS 82 [(1,(.ref [(vI k),(vS n),(.slice 1 p .no),(vI m),(.slice 5 a .no)]))] [] [] 0))) (.exI fun i=>zk2 a1b [vB false] [] (.iface a1a (vI i)) (.out (.need true (.ret (zkQ (.iface a1a (vI i)) [])))))))) (.alt (zk3 a1b [vB false] [] (.done (zkS 82 [(1,(.ref [(vI k),(vS n),(.slice 1 p .no),(vI m),(.slice 5 a .no)]))] [] [] 0))) (.exI fun i=>zk2 a1b [vB false] [] (.iface a1a (vI i)) (.out (.need true (.ret (zkQ (.iface a1a (vI i)) [])))))))) ((t1b k n p m a).K):=by kernel_rfl
@[irreducible] noncomputable def t1c (k:Int) (n:ByteArray) (p:List (List AV)) (m:Int) (a:List (List AV)):KT:=(t1b k n p m a).K (zkS 82 [(1,(.ref [(vI k),(vS n),(.slice 1 p .no),(vI m),(.slice 5 a .no)]))] [] [] 0)
theorem a2a (k) (n:ByteArray) (p m a):(t1b k n p m a).K (zkS 82 [(1,(.ref [(vI k),(vS n),(.slice 1 p .no),(vI m),(.slice 5 a .no)]))] [] [] 0)=
 .stage (.branch (k==7) (.alt (zk3 a1b [vB ((↑a.length:Int)==2)] [] (.done (zkS 82 [(1,(.ref [(vI k),(vS n),(.slice 1 p .no),(vI m),(.slice 5 a .no)]))] [] [] 0))) (.exI fun i=>zk2 a1b [vB ((↑a.length:Int)==2)] [] (.iface a1a (vI i)) (.out (.need true (.ret (zkQ (.iface a1a (vI i)) [])))))) (.branch (k==8) (.alt (zk3 a1b [vB (decide ((↑a.length:Int)≤1))] [] (.done (zkS 82 [(1,(.ref [(vI k),(vS n),(.slice 1 p .no),(vI m),(.slice 5 a .no)]))] [] [] 0))) (.exI fun i=>zk2 a1b [vB (decide ((↑a.length:Int)≤1))] [] (.iface a1a (vI i)) (.out (.need true (.ret (zkQ (.iface a1a (vI i)) [])))))) (.alt (zk3 a1b [vB ((↑a.length:Int)==0)] [] (.done (zkS 82 [(1,(.ref [(vI k),(vS n),(.slice 1 p .no),(vI m),(.slice 5 a .no)]))] [] [] 0))) (.exI fun i=>zk2 a1b [vB ((↑a.length:Int)==0)] [] (.iface a1a (vI i)) (.out (.need true (.ret (zkQ (.iface a1a (vI i)) [])))))))) ((t1c k n p m a).K):=by kernel_rfl
@[irreducible] noncomputable def w1R (k:Int) (n:ByteArray) (p:List (List AV)) (m:Int) (a:List (List AV)):KT:=(t1c k n p m a).K (zkS 82 [(1,(.ref [(vI k),(vS n),(.slice 1 p .no),(vI m),(.slice 5 a .no)]))] [] [] 0)
theorem a2b (k) (n:ByteArray) (p m a):(t1c k n p m a).K (zkS 82 [(1,(.ref [(vI k),(vS n),(.slice 1 p .no),(vI m),(.slice 5 a .no)]))] [] [] 0)=
 .stage (.branch (k==2) (.alt (zk3 a1G [vS n] [] (.done (zkS 82 [(1,(.ref [(vI k),(vS n),(.slice 1 p .no),(vI m),(.slice 5 a .no)]))] [] [] 0))) (.exI fun i=>zk2 a1G [vS n] [] (.iface a1a (vI i)) (.out (.need true (.ret (zkQ (.iface a1a (vI i)) [])))))) (.done (zkS 82 [(1,(.ref [(vI k),(vS n),(.slice 1 p .no),(vI m),(.slice 5 a .no)]))] [] [] 0))) ((w1R k n p m a).K):=by kernel_rfl
theorem a2c (k) (n:ByteArray) (p m a):(w1R k n p m a).K (zkS 82 [(1,(.ref [(vI k),(vS n),(.slice 1 p .no),(vI m),(.slice 5 a .no)]))] [] [] 0)=
 .branch (k==8) (.alt (zk3 b1J [zkN 1 p] [] (.alt (zk3 a1S [zkN 5 a,(.func (.func b1n) [] [])] [] (.need true (.ret (zkR (.tuple []) [])))) (.exI fun i=>zk2 a1S [zkN 5 a,(.func (.func b1n) [] [])] [] (.iface a1a (vI i)) (.need true (.ret (zkQ (.iface a1a (vI i)) [])))))) (.exI fun i=>zk2 b1J [zkN 1 p] [] (.iface a1a (vI i)) (.need true (.ret (zkQ (.iface a1a (vI i)) []))))) (.alt (zk3 a1S [zkN 5 a,(.func (.func b1n) [] [])] [] (.need true (.ret (zkR (.tuple []) [])))) (.exI fun i=>zk2 a1S [zkN 5 a,(.func (.func b1n) [] [])] [] (.iface a1a (vI i)) (.need true (.ret (zkQ (.iface a1a (vI i)) []))))):=by kernel_rfl
@[irreducible] noncomputable def X_Exp (k o m:Int) (p a b c d:List (List AV)):KT:=kt2 b1c [AV.agg [vI k,vI o,vI m,AV.slice 1 p Own.no,AV.slice 5 a Own.no,AV.slice 8 b Own.no,AV.slice 9 c Own.no,AV.slice 4 d Own.no]] []
theorem X_Exp_eq (k o m p a b c d):kt2 b1c [AV.agg [vI k,vI o,vI m,AV.slice 1 p Own.no,AV.slice 5 a Own.no,AV.slice 8 b Own.no,AV.slice 9 c Own.no,AV.slice 4 d Own.no]] []=
 .stage (.branch (decide (k≥1)) (.alt (zk3 a1b [vB (decide (k≤14))] [] (.done (zkS 131 [(1,(.ref [(vI k),(vI o),(vI m),(.slice 1 p .no),(.slice 5 a .no),(.slice 8 b .no),(.slice 9 c .no),(.slice 4 d .no)]))] [] [] 0))) (.exI fun i=>zk2 a1b [vB (decide (k≤14))] [] (.iface a1a (vI i)) (.out (.need true (.ret (zkQ (.iface a1a (vI i)) [])))))) (.alt (zk3 a1b [vB false] [] (.done (zkS 131 [(1,(.ref [(vI k),(vI o),(vI m),(.slice 1 p .no),(.slice 5 a .no),(.slice 8 b .no),(.slice 9 c .no),(.slice 4 d .no)]))] [] [] 0))) (.exI fun i=>zk2 a1b [vB false] [] (.iface a1a (vI i)) (.out (.need true (.ret (zkQ (.iface a1a (vI i)) []))))))) ((X_Exp k o m p a b c d).K):=by kernel_rfl
@[irreducible] noncomputable def t1d (k o m:Int) (p a b c d:List (List AV)):KT:=(X_Exp k o m p a b c d).K (zkS 131 [(1,(.ref [(vI k),(vI o),(vI m),(.slice 1 p .no),(.slice 5 a .no),(.slice 8 b .no),(.slice 9 c .no),(.slice 4 d .no)]))] [] [] 0)
theorem a2d (k o m p a b c d):(X_Exp k o m p a b c d).K (zkS 131 [(1,(.ref [(vI k),(vI o),(vI m),(.slice 1 p .no),(.slice 5 a .no),(.slice 8 b .no),(.slice 9 c .no),(.slice 4 d .no)]))] [] [] 0)=
 .stage (.branch (k==13) (.branch (decide (o≥1)) (.alt (zk3 a1b [vB (decide (o≤6))] [] (.done (zkS 131 [(1,(.ref [(vI k),(vI o),(vI m),(.slice 1 p .no),(.slice 5 a .no),(.slice 8 b .no),(.slice 9 c .no),(.slice 4 d .no)]))] [] [] 0))) (.exI fun i=>zk2 a1b [vB (decide (o≤6))] [] (.iface a1a (vI i)) (.out (.need true (.ret (zkQ (.iface a1a (vI i)) [])))))) (.alt (zk3 a1b [vB false] [] (.done (zkS 131 [(1,(.ref [(vI k),(vI o),(vI m),(.slice 1 p .no),(.slice 5 a .no),(.slice 8 b .no),(.slice 9 c .no),(.slice 4 d .no)]))] [] [] 0))) (.exI fun i=>zk2 a1b [vB false] [] (.iface a1a (vI i)) (.out (.need true (.ret (zkQ (.iface a1a (vI i)) []))))))) (.alt (zk3 a1b [vB (o==0)] [] (.done (zkS 131 [(1,(.ref [(vI k),(vI o),(vI m),(.slice 1 p .no),(.slice 5 a .no),(.slice 8 b .no),(.slice 9 c .no),(.slice 4 d .no)]))] [] [] 0))) (.exI fun i=>zk2 a1b [vB (o==0)] [] (.iface a1a (vI i)) (.out (.need true (.ret (zkQ (.iface a1a (vI i)) []))))))) ((t1d k o m p a b c d).K):=by kernel_rfl
@[irreducible] noncomputable def t1e (k o m:Int) (p a b c d:List (List AV)):KT:=(t1d k o m p a b c d).K (zkS 131 [(1,(.ref [(vI k),(vI o),(vI m),(.slice 1 p .no),(.slice 5 a .no),(.slice 8 b .no),(.slice 9 c .no),(.slice 4 d .no)]))] [] [] 0)
theorem a2e (k o m p a b c d):(t1d k o m p a b c d).K (zkS 131 [(1,(.ref [(vI k),(vI o),(vI m),(.slice 1 p .no),(.slice 5 a .no),(.slice 8 b .no),(.slice 9 c .no),(.slice 4 d .no)]))] [] [] 0)=
 .stage (.branch (k==1) (.alt (zk3 a1b [vB (decide (m≥0))] [] (.done (zkS 131 [(1,(.ref [(vI k),(vI o),(vI m),(.slice 1 p .no),(.slice 5 a .no),(.slice 8 b .no),(.slice 9 c .no),(.slice 4 d .no)]))] [] [] 0))) (.exI fun i=>zk2 a1b [vB (decide (m≥0))] [] (.iface a1a (vI i)) (.out (.need true (.ret (zkQ (.iface a1a (vI i)) [])))))) (.branch (m==0) (.alt (zk3 a1b [vB (decide (m≥0))] [] (.done (zkS 131 [(1,(.ref [(vI k),(vI o),(vI m),(.slice 1 p .no),(.slice 5 a .no),(.slice 8 b .no),(.slice 9 c .no),(.slice 4 d .no)]))] [] [] 0))) (.exI fun i=>zk2 a1b [vB (decide (m≥0))] [] (.iface a1a (vI i)) (.out (.need true (.ret (zkQ (.iface a1a (vI i)) [])))))) (.alt (zk3 a1b [vB false] [] (.done (zkS 131 [(1,(.ref [(vI k),(vI o),(vI m),(.slice 1 p .no),(.slice 5 a .no),(.slice 8 b .no),(.slice 9 c .no),(.slice 4 d .no)]))] [] [] 0))) (.exI fun i=>zk2 a1b [vB false] [] (.iface a1a (vI i)) (.out (.need true (.ret (zkQ (.iface a1a (vI i)) [])))))))) ((t1e k o m p a b c d).K):=by kernel_rfl
@[irreducible] noncomputable def t1f (k o m:Int) (p a b c d:List (List AV)):KT:=(t1e k o m p a b c d).K (zkS 131 [(1,(.ref [(vI k),(vI o),(vI m),(.slice 1 p .no),(.slice 5 a .no),(.slice 8 b .no),(.slice 9 c .no),(.slice 4 d .no)]))] [] [] 0)
theorem a2f (k o m p a b c d):(t1e k o m p a b c d).K (zkS 131 [(1,(.ref [(vI k),(vI o),(vI m),(.slice 1 p .no),(.slice 5 a .no),(.slice 8 b .no),(.slice 9 c .no),(.slice 4 d .no)]))] [] [] 0)=
 .stage (.branch (k==5) (.alt (zk3 a1b [vB true] [] (.done (zkS 131 [(1,(.ref [(vI k),(vI o),(vI m),(.slice 1 p .no),(.slice 5 a .no),(.slice 8 b .no),(.slice 9 c .no),(.slice 4 d .no)]))] [] [] 0))) (.exI fun i=>zk2 a1b [vB true] [] (.iface a1a (vI i)) (.out (.need true (.ret (zkQ (.iface a1a (vI i)) [])))))) (.branch (k==6) (.alt (zk3 a1b [vB true] [] (.done (zkS 131 [(1,(.ref [(vI k),(vI o),(vI m),(.slice 1 p .no),(.slice 5 a .no),(.slice 8 b .no),(.slice 9 c .no),(.slice 4 d .no)]))] [] [] 0))) (.exI fun i=>zk2 a1b [vB true] [] (.iface a1a (vI i)) (.out (.need true (.ret (zkQ (.iface a1a (vI i)) [])))))) (.alt (zk3 a1b [vB ((↑p.length:Int)==0)] [] (.done (zkS 131 [(1,(.ref [(vI k),(vI o),(vI m),(.slice 1 p .no),(.slice 5 a .no),(.slice 8 b .no),(.slice 9 c .no),(.slice 4 d .no)]))] [] [] 0))) (.exI fun i=>zk2 a1b [vB ((↑p.length:Int)==0)] [] (.iface a1a (vI i)) (.out (.need true (.ret (zkQ (.iface a1a (vI i)) [])))))))) ((t1f k o m p a b c d).K):=by kernel_rfl
@[irreducible] noncomputable def t1g (k o m:Int) (p a b c d:List (List AV)):KT:=(t1f k o m p a b c d).K (zkS 131 [(1,(.ref [(vI k),(vI o),(vI m),(.slice 1 p .no),(.slice 5 a .no),(.slice 8 b .no),(.slice 9 c .no),(.slice 4 d .no)]))] [] [] 0)
theorem a2g (k o m p a b c d):(t1f k o m p a b c d).K (zkS 131 [(1,(.ref [(vI k),(vI o),(vI m),(.slice 1 p .no),(.slice 5 a .no),(.slice 8 b .no),(.slice 9 c .no),(.slice 4 d .no)]))] [] [] 0)=
 zkI3 fun i i1 i2=>.call f1l [vI k] .none [] (zkR (.tuple (zk33 i i1 i2)) []) (.stage (.branch (decide (i<0)) (.done (zkS 131 [(1,(.ref [(vI k),(vI o),(vI m),(.slice 1 p .no),(.slice 5 a .no),(.slice 8 b .no),(.slice 9 c .no),(.slice 4 d .no)])),(2,vI (if 1>(↑a.length:Int) then 1 else (↑a.length:Int))),(3,vI (wrap .i64 ((if 1>(↑a.length:Int) then 1 else (↑a.length:Int))+1))),(4,vI i2)] [] [] 0)) (.done (zkS 131 [(1,(.ref [(vI k),(vI o),(vI m),(.slice 1 p .no),(.slice 5 a .no),(.slice 8 b .no),(.slice 9 c .no),(.slice 4 d .no)])),(2,vI i),(3,vI i1),(4,vI i2)] [] [] 0))) (((((t1g k o m p a b c d).I i).I i1).I i2).T.K)):=by kernel_rfl
@[irreducible] noncomputable def t1h (k o m:Int) (p a b c d:List (List AV)) (i i1 i2 q5x0 q5x1:Int):KT:=((((t1g k o m p a b c d).I i).I i1).I i2).T.K (zkS 131 [(1,(.ref [(vI k),(vI o),(vI m),(.slice 1 p .no),(.slice 5 a .no),(.slice 8 b .no),(.slice 9 c .no),(.slice 4 d .no)])),(2,vI q5x0),(3,vI q5x1),(4,vI i2)] [] [] 0)
theorem a2h (k o m p a b c d i i1 i2 q5x0 q5x1):((((t1g k o m p a b c d).I i).I i1).I i2).T.K (zkS 131 [(1,(.ref [(vI k),(vI o),(vI m),(.slice 1 p .no),(.slice 5 a .no),(.slice 8 b .no),(.slice 9 c .no),(.slice 4 d .no)])),(2,vI q5x0),(3,vI q5x1),(4,vI i2)] [] [] 0)=
 .stage (.branch ((↑a.length:Int)==q5x0) (.branch ((↑b.length:Int)==q5x1) (.alt (zk3 a1b [vB ((↑d.length:Int)==i2)] [] (.done (zkS 131 [(1,(.ref [(vI k),(vI o),(vI m),(.slice 1 p .no),(.slice 5 a .no),(.slice 8 b .no),(.slice 9 c .no),(.slice 4 d .no)]))] [] [] 0))) (.exI fun i3=>zk2 a1b [vB ((↑d.length:Int)==i2)] [] (.iface a1a (vI i3)) (.out (.need true (.ret (zkQ (.iface a1a (vI i3)) [])))))) (.alt (zk3 a1b [vB false] [] (.done (zkS 131 [(1,(.ref [(vI k),(vI o),(vI m),(.slice 1 p .no),(.slice 5 a .no),(.slice 8 b .no),(.slice 9 c .no),(.slice 4 d .no)]))] [] [] 0))) (.exI fun i3=>zk2 a1b [vB false] [] (.iface a1a (vI i3)) (.out (.need true (.ret (zkQ (.iface a1a (vI i3)) []))))))) (.alt (zk3 a1b [vB false] [] (.done (zkS 131 [(1,(.ref [(vI k),(vI o),(vI m),(.slice 1 p .no),(.slice 5 a .no),(.slice 8 b .no),(.slice 9 c .no),(.slice 4 d .no)]))] [] [] 0))) (.exI fun i3=>zk2 a1b [vB false] [] (.iface a1a (vI i3)) (.out (.need true (.ret (zkQ (.iface a1a (vI i3)) []))))))) ((t1h k o m p a b c d i i1 i2 q5x0 q5x1).K):=by kernel_rfl
@[irreducible] noncomputable def t1i (k o m:Int) (p a b c d:List (List AV)) (i i1 i2 q5x0 q5x1:Int):KT:=(t1h k o m p a b c d i i1 i2 q5x0 q5x1).K (zkS 131 [(1,(.ref [(vI k),(vI o),(vI m),(.slice 1 p .no),(.slice 5 a .no),(.slice 8 b .no),(.slice 9 c .no),(.slice 4 d .no)]))] [] [] 0)
theorem a2i (k o m p a b c d i i1 i2 q5x0 q5x1):(t1h k o m p a b c d i i1 i2 q5x0 q5x1).K (zkS 131 [(1,(.ref [(vI k),(vI o),(vI m),(.slice 1 p .no),(.slice 5 a .no),(.slice 8 b .no),(.slice 9 c .no),(.slice 4 d .no)]))] [] [] 0)=
 .stage (.branch (k==10) (.alt (zk3 a1b [vB true] [] (.done (zkS 131 [(1,(.ref [(vI k),(vI o),(vI m),(.slice 1 p .no),(.slice 5 a .no),(.slice 8 b .no),(.slice 9 c .no),(.slice 4 d .no)]))] [] [] 0))) (.exI fun i3=>zk2 a1b [vB true] [] (.iface a1a (vI i3)) (.out (.need true (.ret (zkQ (.iface a1a (vI i3)) [])))))) (.alt (zk3 a1b [vB ((↑c.length:Int)==0)] [] (.done (zkS 131 [(1,(.ref [(vI k),(vI o),(vI m),(.slice 1 p .no),(.slice 5 a .no),(.slice 8 b .no),(.slice 9 c .no),(.slice 4 d .no)]))] [] [] 0))) (.exI fun i3=>zk2 a1b [vB ((↑c.length:Int)==0)] [] (.iface a1a (vI i3)) (.out (.need true (.ret (zkQ (.iface a1a (vI i3)) []))))))) ((t1i k o m p a b c d i i1 i2 q5x0 q5x1).K):=by kernel_rfl
@[irreducible] noncomputable def t1j (k o m:Int) (p a b c d:List (List AV)) (i i1 i2 q5x0 q5x1:Int):KT:=(t1i k o m p a b c d i i1 i2 q5x0 q5x1).K (zkS 131 [(1,(.ref [(vI k),(vI o),(vI m),(.slice 1 p .no),(.slice 5 a .no),(.slice 8 b .no),(.slice 9 c .no),(.slice 4 d .no)]))] [] [] 0)
theorem a2j (k o m p a b c d i i1 i2 q5x0 q5x1):(t1i k o m p a b c d i i1 i2 q5x0 q5x1).K (zkS 131 [(1,(.ref [(vI k),(vI o),(vI m),(.slice 1 p .no),(.slice 5 a .no),(.slice 8 b .no),(.slice 9 c .no),(.slice 4 d .no)]))] [] [] 0)=
 .alt (zk3 a1x [zkN 9 c,(.func (.func b1s) [] [])] [] (.stage (.branch (k==5) (.alt (zk3 c1k [zkN 1 p] [] (.done (zkS 131 [(1,(.ref [(vI k),(vI o),(vI m),(.slice 1 p .no),(.slice 5 a .no),(.slice 8 b .no),(.slice 9 c .no),(.slice 4 d .no)]))] [] [] 0))) (.exI fun i3=>zk2 c1k [zkN 1 p] [] (.iface a1a (vI i3)) (.out (.need true (.ret (zkQ (.iface a1a (vI i3)) [])))))) (.done (zkS 131 [(1,(.ref [(vI k),(vI o),(vI m),(.slice 1 p .no),(.slice 5 a .no),(.slice 8 b .no),(.slice 9 c .no),(.slice 4 d .no)]))] [] [] 0))) ((t1j k o m p a b c d i i1 i2 q5x0 q5x1).T.T.K))) (.exI fun i3=>zk2 a1x [zkN 9 c,(.func (.func b1s) [] [])] [] (.iface a1a (vI i3)) (.need true (.ret (zkQ (.iface a1a (vI i3)) [])))):=by kernel_rfl
@[irreducible] noncomputable def w1S (k o m:Int) (p a b c d:List (List AV)) (i i1 i2 q5x0 q5x1:Int):KT:=(t1j k o m p a b c d i i1 i2 q5x0 q5x1).T.T.K (zkS 131 [(1,(.ref [(vI k),(vI o),(vI m),(.slice 1 p .no),(.slice 5 a .no),(.slice 8 b .no),(.slice 9 c .no),(.slice 4 d .no)]))] [] [] 0)
theorem a2k (k o m p a b c d i i1 i2 q5x0 q5x1):(t1j k o m p a b c d i i1 i2 q5x0 q5x1).T.T.K (zkS 131 [(1,(.ref [(vI k),(vI o),(vI m),(.slice 1 p .no),(.slice 5 a .no),(.slice 8 b .no),(.slice 9 c .no),(.slice 4 d .no)]))] [] [] 0)=
 .stage (.branch (k==6) (.alt (zk3 b1J [zkN 1 p] [] (.done (zkS 131 [(1,(.ref [(vI k),(vI o),(vI m),(.slice 1 p .no),(.slice 5 a .no),(.slice 8 b .no),(.slice 9 c .no),(.slice 4 d .no)]))] [] [] 0))) (.exI fun i3=>zk2 b1J [zkN 1 p] [] (.iface a1a (vI i3)) (.out (.need true (.ret (zkQ (.iface a1a (vI i3)) [])))))) (.done (zkS 131 [(1,(.ref [(vI k),(vI o),(vI m),(.slice 1 p .no),(.slice 5 a .no),(.slice 8 b .no),(.slice 9 c .no),(.slice 4 d .no)]))] [] [] 0))) ((w1S k o m p a b c d i i1 i2 q5x0 q5x1).K):=by kernel_rfl
theorem a2l (k o m p a b c d i i1 i2 q5x0 q5x1):(w1S k o m p a b c d i i1 i2 q5x0 q5x1).K (zkS 131 [(1,(.ref [(vI k),(vI o),(vI m),(.slice 1 p .no),(.slice 5 a .no),(.slice 8 b .no),(.slice 9 c .no),(.slice 4 d .no)]))] [] [] 0)=
 .alt (zk3 a1S [zkN 5 a,(.func (.func b1n) [] [])] [] (.alt (zk3 a1N [zkN 8 b,(.func (.func b1c) [] [])] [] (.alt (zk3 a1x [zkN 9 c,(.func (.func b1x) [] [])] [] (.alt (zk3 a1m [zkN 4 d,(.func (.func a1F) [] [])] [] (.need true (.ret (zkR (.tuple []) [])))) (.exI fun i3=>zk2 a1m [zkN 4 d,(.func (.func a1F) [] [])] [] (.iface a1a (vI i3)) (.need true (.ret (zkQ (.iface a1a (vI i3)) [])))))) (.exI fun i3=>zk2 a1x [zkN 9 c,(.func (.func b1x) [] [])] [] (.iface a1a (vI i3)) (.need true (.ret (zkQ (.iface a1a (vI i3)) [])))))) (.exI fun i3=>zk2 a1N [zkN 8 b,(.func (.func b1c) [] [])] [] (.iface a1a (vI i3)) (.need true (.ret (zkQ (.iface a1a (vI i3)) [])))))) (.exI fun i3=>zk2 a1S [zkN 5 a,(.func (.func b1n) [] [])] [] (.iface a1a (vI i3)) (.need true (.ret (zkQ (.iface a1a (vI i3)) [])))):=by kernel_rfl
theorem f2K (n:ByteArray) (a):kt2 b1y [AV.agg [vS n,AV.slice 4 a Own.no]] []=
 .alt (zk3 a1b [vB (decide ((↑a.length:Int)≤1))] [] (.alt (zk3 a1A [vS n] [] (.alt (zk3 a1m [zkN 4 a,(.func (.func a1F) [] [])] [] (.need true (.ret (zkR (.tuple []) [])))) (.exI fun i=>zk2 a1m [zkN 4 a,(.func (.func a1F) [] [])] [] (.iface a1a (vI i)) (.need true (.ret (zkQ (.iface a1a (vI i)) [])))))) (.exI fun i=>zk2 a1A [vS n] [] (.iface a1a (vI i)) (.need true (.ret (zkQ (.iface a1a (vI i)) [])))))) (.exI fun i=>zk2 a1b [vB (decide ((↑a.length:Int)≤1))] [] (.iface a1a (vI i)) (.need true (.ret (zkQ (.iface a1a (vI i)) [])))):=by kernel_rfl
@[irreducible] noncomputable def f2L (k o:Int) (n:ByteArray) (p a b c d e:List (List AV)):KT:=kt2 b1x [AV.agg [vI k,vI o,vS n,AV.slice 1 p Own.no,AV.slice 4 a Own.no,AV.slice 8 b Own.no,AV.slice 2 c Own.no,AV.slice 5 d Own.no,AV.slice 5 e Own.no]] []
theorem f2M (k o) (n:ByteArray) (p a b c d e):kt2 b1x [AV.agg [vI k,vI o,vS n,AV.slice 1 p Own.no,AV.slice 4 a Own.no,AV.slice 8 b Own.no,AV.slice 2 c Own.no,AV.slice 5 d Own.no,AV.slice 5 e Own.no]] []=
 .stage (.branch (decide (k≥1)) (.alt (zk3 a1b [vB (decide (k≤7))] [] (.done (zkS 119 [(1,(.ref [(vI k),(vI o),(vS n),(.slice 1 p .no),(.slice 4 a .no),(.slice 8 b .no),(.slice 2 c .no),(.slice 5 d .no),(.slice 5 e .no)]))] [] [] 0))) (.exI fun i=>zk2 a1b [vB (decide (k≤7))] [] (.iface a1a (vI i)) (.out (.need true (.ret (zkQ (.iface a1a (vI i)) [])))))) (.alt (zk3 a1b [vB false] [] (.done (zkS 119 [(1,(.ref [(vI k),(vI o),(vS n),(.slice 1 p .no),(.slice 4 a .no),(.slice 8 b .no),(.slice 2 c .no),(.slice 5 d .no),(.slice 5 e .no)]))] [] [] 0))) (.exI fun i=>zk2 a1b [vB false] [] (.iface a1a (vI i)) (.out (.need true (.ret (zkQ (.iface a1a (vI i)) []))))))) ((f2L k o n p a b c d e).K):=by kernel_rfl
@[irreducible] noncomputable def t1k (k o:Int) (n:ByteArray) (p a b c d e:List (List AV)):KT:=(f2L k o n p a b c d e).K (zkS 119 [(1,(.ref [(vI k),(vI o),(vS n),(.slice 1 p .no),(.slice 4 a .no),(.slice 8 b .no),(.slice 2 c .no),(.slice 5 d .no),(.slice 5 e .no)]))] [] [] 0)
theorem a2m (k o) (n:ByteArray) (p a b c d e):(f2L k o n p a b c d e).K (zkS 119 [(1,(.ref [(vI k),(vI o),(vS n),(.slice 1 p .no),(.slice 4 a .no),(.slice 8 b .no),(.slice 2 c .no),(.slice 5 d .no),(.slice 5 e .no)]))] [] [] 0)=
 .stage (.branch (k==1) (.done (zkS 119 [(1,(.ref [(vI k),(vI o),(vS n),(.slice 1 p .no),(.slice 4 a .no),(.slice 8 b .no),(.slice 2 c .no),(.slice 5 d .no),(.slice 5 e .no)])),(2,.lp 2 0 0),(3,.lp 3 0 0),(4,.lp 4 0 0),(5,.lp 5 0 0),(6,.lp 6 0 0),(7,.lp 7 0 0),(8,vB true)] [(2,0,[vI 0,vI 0]),(3,0,[vI 0,vI 1]),(4,0,[vI 1,vI 1]),(5,0,[vI 0,vI 0]),(6,0,[vI 0,vI 0]),(7,0,[vI 0,vI 0])] [] 0)) (.branch (k==2) (.done (zkS 119 [(1,(.ref [(vI k),(vI o),(vS n),(.slice 1 p .no),(.slice 4 a .no),(.slice 8 b .no),(.slice 2 c .no),(.slice 5 d .no),(.slice 5 e .no)])),(2,.lp 2 0 0),(3,.lp 3 0 0),(4,.lp 4 0 0),(5,.lp 5 0 0),(6,.lp 6 0 0),(7,.lp 7 0 0),(8,vB true)] [(2,0,[vI 1,vI (-1)]),(3,0,[vI 0,vI 1]),(4,0,[vI 1,vI 1]),(5,0,[vI 0,vI 0]),(6,0,[vI 0,vI 0]),(7,0,[vI 0,vI 0])] [] 0)) (.branch (k==3) (.done (zkS 119 [(1,(.ref [(vI k),(vI o),(vS n),(.slice 1 p .no),(.slice 4 a .no),(.slice 8 b .no),(.slice 2 c .no),(.slice 5 d .no),(.slice 5 e .no)])),(2,.lp 2 0 0),(3,.lp 3 0 0),(4,.lp 4 0 0),(5,.lp 5 0 0),(6,.lp 6 0 0),(7,.lp 7 0 0),(8,vB true)] [(2,0,[vI 0,vI 0]),(3,0,[vI 1,vI 1]),(4,0,[vI 0,vI 0]),(5,0,[vI 0,vI 0]),(6,0,[vI 0,vI 0]),(7,0,[vI 0,vI 0])] [] 0)) (.branch (k==4) (.done (zkS 119 [(1,(.ref [(vI k),(vI o),(vS n),(.slice 1 p .no),(.slice 4 a .no),(.slice 8 b .no),(.slice 2 c .no),(.slice 5 d .no),(.slice 5 e .no)])),(2,.lp 2 0 0),(3,.lp 3 0 0),(4,.lp 4 0 0),(5,.lp 5 0 0),(6,.lp 6 0 0),(7,.lp 7 0 0),(8,vB true)] [(2,0,[vI 0,vI 0]),(3,0,[vI 0,vI 0]),(4,0,[vI 0,vI 0]),(5,0,[vI 1,vI (-1)]),(6,0,[vI 0,vI 0]),(7,0,[vI 0,vI 0])] [] 0)) (.branch (k==5) (.done (zkS 119 [(1,(.ref [(vI k),(vI o),(vS n),(.slice 1 p .no),(.slice 4 a .no),(.slice 8 b .no),(.slice 2 c .no),(.slice 5 d .no),(.slice 5 e .no)])),(2,.lp 2 0 0),(3,.lp 3 0 0),(4,.lp 4 0 0),(5,.lp 5 0 0),(6,.lp 6 0 0),(7,.lp 7 0 0),(8,vB false)] [(2,0,[vI 0,vI 0]),(3,0,[vI 0,vI 0]),(4,0,[vI 0,vI 0]),(5,0,[vI 0,vI 0]),(6,0,[vI 1,vI 1]),(7,0,[vI 0,vI 0])] [] 0)) (.branch (k==6) (.done (zkS 119 [(1,(.ref [(vI k),(vI o),(vS n),(.slice 1 p .no),(.slice 4 a .no),(.slice 8 b .no),(.slice 2 c .no),(.slice 5 d .no),(.slice 5 e .no)])),(2,.lp 2 0 0),(3,.lp 3 0 0),(4,.lp 4 0 0),(5,.lp 5 0 0),(6,.lp 6 0 0),(7,.lp 7 0 0),(8,vB false)] [(2,0,[vI 0,vI 0]),(3,0,[vI 0,vI 0]),(4,0,[vI 0,vI 0]),(5,0,[vI 0,vI 0]),(6,0,[vI 0,vI 0]),(7,0,[vI 1,vI 1])] [] 0)) (.branch (k==7) (.done (zkS 119 [(1,(.ref [(vI k),(vI o),(vS n),(.slice 1 p .no),(.slice 4 a .no),(.slice 8 b .no),(.slice 2 c .no),(.slice 5 d .no),(.slice 5 e .no)])),(2,.lp 2 0 0),(3,.lp 3 0 0),(4,.lp 4 0 0),(5,.lp 5 0 0),(6,.lp 6 0 0),(7,.lp 7 0 0),(8,vB false)] [(2,0,[vI 1,vI 1]),(3,0,[vI 0,vI 0]),(4,0,[vI 0,vI 0]),(5,0,[vI 0,vI 0]),(6,0,[vI 1,vI 1]),(7,0,[vI 1,vI 1])] [] 0)) (.done (zkS 119 [(1,(.ref [(vI k),(vI o),(vS n),(.slice 1 p .no),(.slice 4 a .no),(.slice 8 b .no),(.slice 2 c .no),(.slice 5 d .no),(.slice 5 e .no)])),(2,.lp 2 0 0),(3,.lp 3 0 0),(4,.lp 4 0 0),(5,.lp 5 0 0),(6,.lp 6 0 0),(7,.lp 7 0 0),(8,vB true)] [(2,0,[vI 0,vI 0]),(3,0,[vI 0,vI 0]),(4,0,[vI 0,vI 0]),(5,0,[vI 0,vI 0]),(6,0,[vI 0,vI 0]),(7,0,[vI 0,vI 0])] [] 0))))))))) ((t1k k o n p a b c d e).K):=by kernel_rfl
@[irreducible] noncomputable def n1e (k o:Int) (n:ByteArray) (p a b c d e:List (List AV)) (q2x0:Bool) (q2x1 q2x2 q2x3 q2x4 q2x5 q2x6 q2x7 q2x8 q2x9 q2x10 q2x11 q2x12:Int):KT:=(t1k k o n p a b c d e).K (zkS 119 [(1,(.ref [(vI k),(vI o),(vS n),(.slice 1 p .no),(.slice 4 a .no),(.slice 8 b .no),(.slice 2 c .no),(.slice 5 d .no),(.slice 5 e .no)])),(2,.lp 2 0 0),(3,.lp 3 0 0),(4,.lp 4 0 0),(5,.lp 5 0 0),(6,.lp 6 0 0),(7,.lp 7 0 0),(8,vB q2x0)] [(2,0,[vI q2x1,vI q2x2]),(3,0,[vI q2x3,vI q2x4]),(4,0,[vI q2x5,vI q2x6]),(5,0,[vI q2x7,vI q2x8]),(6,0,[vI q2x9,vI q2x10]),(7,0,[vI q2x11,vI q2x12])] [] 0)
theorem a2n (k o) (n:ByteArray) (p a b c d e) (q2x0:Bool) (q2x1 q2x2 q2x3 q2x4 q2x5 q2x6 q2x7 q2x8 q2x9 q2x10 q2x11 q2x12):(t1k k o n p a b c d e).K (zkS 119 [(1,(.ref [(vI k),(vI o),(vS n),(.slice 1 p .no),(.slice 4 a .no),(.slice 8 b .no),(.slice 2 c .no),(.slice 5 d .no),(.slice 5 e .no)])),(2,.lp 2 0 0),(3,.lp 3 0 0),(4,.lp 4 0 0),(5,.lp 5 0 0),(6,.lp 6 0 0),(7,.lp 7 0 0),(8,vB q2x0)] [(2,0,[vI q2x1,vI q2x2]),(3,0,[vI q2x3,vI q2x4]),(4,0,[vI q2x5,vI q2x6]),(5,0,[vI q2x7,vI q2x8]),(6,0,[vI q2x9,vI q2x10]),(7,0,[vI q2x11,vI q2x12])] [] 0)=
 .alt (zk3 b1O (zk33 (↑p.length:Int) q2x1 q2x2) [] (.alt (zk3 b1O (zk33 (↑a.length:Int) q2x3 q2x4) [] (.alt (zk3 b1O (zk33 (↑b.length:Int) q2x5 q2x6) [] (.alt (zk3 b1O (zk33 (↑c.length:Int) q2x7 q2x8) [] (.alt (zk3 b1O (zk33 (↑d.length:Int) q2x9 q2x10) [] (.alt (zk3 b1O (zk33 (↑e.length:Int) q2x11 q2x12) [] (.branch q2x0 (.stage (.alt (zk3 a1G [vS n] [] (.done (zkS 119 [(1,(.ref [(vI k),(vI o),(vS n),(.slice 1 p .no),(.slice 4 a .no),(.slice 8 b .no),(.slice 2 c .no),(.slice 5 d .no),(.slice 5 e .no)])),(9,(.func (.func a1G) [] []))] [] [] 0))) (.exI fun i=>zk2 a1G [vS n] [] (.iface a1a (vI i)) (.out (.need true (.ret (zkQ (.iface a1a (vI i)) [])))))) ((n1e k o n p a b c d e q2x0 q2x1 q2x2 q2x3 q2x4 q2x5 q2x6 q2x7 q2x8 q2x9 q2x10 q2x11 q2x12).T.T.T.T.T.T.T.T.T.T.T.T.T.K)) (.stage (.alt (zk3 a1A [vS n] [] (.done (zkS 119 [(1,(.ref [(vI k),(vI o),(vS n),(.slice 1 p .no),(.slice 4 a .no),(.slice 8 b .no),(.slice 2 c .no),(.slice 5 d .no),(.slice 5 e .no)])),(9,(.func (.func a1A) [] []))] [] [] 0))) (.exI fun i=>zk2 a1A [vS n] [] (.iface a1a (vI i)) (.out (.need true (.ret (zkQ (.iface a1a (vI i)) [])))))) ((n1e k o n p a b c d e q2x0 q2x1 q2x2 q2x3 q2x4 q2x5 q2x6 q2x7 q2x8 q2x9 q2x10 q2x11 q2x12).T.T.T.T.T.T.T.T.T.T.T.T.F.K)))) (.exI fun i=>zk2 b1O (zk33 (↑e.length:Int) q2x11 q2x12) [] (.iface a1a (vI i)) (.need true (.ret (zkQ (.iface a1a (vI i)) [])))))) (.exI fun i=>zk2 b1O (zk33 (↑d.length:Int) q2x9 q2x10) [] (.iface a1a (vI i)) (.need true (.ret (zkQ (.iface a1a (vI i)) [])))))) (.exI fun i=>zk2 b1O (zk33 (↑c.length:Int) q2x7 q2x8) [] (.iface a1a (vI i)) (.need true (.ret (zkQ (.iface a1a (vI i)) [])))))) (.exI fun i=>zk2 b1O (zk33 (↑b.length:Int) q2x5 q2x6) [] (.iface a1a (vI i)) (.need true (.ret (zkQ (.iface a1a (vI i)) [])))))) (.exI fun i=>zk2 b1O (zk33 (↑a.length:Int) q2x3 q2x4) [] (.iface a1a (vI i)) (.need true (.ret (zkQ (.iface a1a (vI i)) [])))))) (.exI fun i=>zk2 b1O (zk33 (↑p.length:Int) q2x1 q2x2) [] (.iface a1a (vI i)) (.need true (.ret (zkQ (.iface a1a (vI i)) [])))):=by kernel_rfl
theorem a2o (k o) (n:ByteArray) (p a b c d e) (q2x0:Bool) (q2x1 q2x2 q2x3 q2x4 q2x5 q2x6 q2x7 q2x8 q2x9 q2x10 q2x11 q2x12):(n1e k o n p a b c d e q2x0 q2x1 q2x2 q2x3 q2x4 q2x5 q2x6 q2x7 q2x8 q2x9 q2x10 q2x11 q2x12).T.T.T.T.T.T.T.T.T.T.T.T.F.K (zkS 119 [(1,(.ref [(vI k),(vI o),(vS n),(.slice 1 p .no),(.slice 4 a .no),(.slice 8 b .no),(.slice 2 c .no),(.slice 5 d .no),(.slice 5 e .no)])),(9,(.func (.func a1A) [] []))] [] [] 0)=
 .alt (zk3 b1b [zkN 1 p,(.func (.func a1A) [] [])] [] (.alt (zk3 a1m [zkN 4 a,(.func (.func a1F) [] [])] [] (.alt (zk3 a1N [zkN 8 b,(.func (.func b1c) [] [])] [] (.alt (zk3 a1O [zkN 2 c,(.func (.func b1y) [] [])] [] (.alt (zk3 a1P [zkN 5 d,(.func (.func b1t) [] [])] [] (.alt (zk3 a1w [zkN 5 e,(.func (.func a1Y) [] [])] [] (.need true (.ret (zkR (.tuple []) [])))) (.exI fun i=>zk2 a1w [zkN 5 e,(.func (.func a1Y) [] [])] [] (.iface a1a (vI i)) (.need true (.ret (zkQ (.iface a1a (vI i)) [])))))) (.exI fun i=>zk2 a1P [zkN 5 d,(.func (.func b1t) [] [])] [] (.iface a1a (vI i)) (.need true (.ret (zkQ (.iface a1a (vI i)) [])))))) (.exI fun i=>zk2 a1O [zkN 2 c,(.func (.func b1y) [] [])] [] (.iface a1a (vI i)) (.need true (.ret (zkQ (.iface a1a (vI i)) [])))))) (.exI fun i=>zk2 a1N [zkN 8 b,(.func (.func b1c) [] [])] [] (.iface a1a (vI i)) (.need true (.ret (zkQ (.iface a1a (vI i)) [])))))) (.exI fun i=>zk2 a1m [zkN 4 a,(.func (.func a1F) [] [])] [] (.iface a1a (vI i)) (.need true (.ret (zkQ (.iface a1a (vI i)) [])))))) (.exI fun i=>zk2 b1b [zkN 1 p,(.func (.func a1A) [] [])] [] (.iface a1a (vI i)) (.need true (.ret (zkQ (.iface a1a (vI i)) [])))):=by kernel_rfl
theorem a2p (k o) (n:ByteArray) (p a b c d e) (q2x0:Bool) (q2x1 q2x2 q2x3 q2x4 q2x5 q2x6 q2x7 q2x8 q2x9 q2x10 q2x11 q2x12):(n1e k o n p a b c d e q2x0 q2x1 q2x2 q2x3 q2x4 q2x5 q2x6 q2x7 q2x8 q2x9 q2x10 q2x11 q2x12).T.T.T.T.T.T.T.T.T.T.T.T.T.K (zkS 119 [(1,(.ref [(vI k),(vI o),(vS n),(.slice 1 p .no),(.slice 4 a .no),(.slice 8 b .no),(.slice 2 c .no),(.slice 5 d .no),(.slice 5 e .no)])),(9,(.func (.func a1G) [] []))] [] [] 0)=
 .alt (zk3 b1b [zkN 1 p,(.func (.func a1G) [] [])] [] (.alt (zk3 a1m [zkN 4 a,(.func (.func a1F) [] [])] [] (.alt (zk3 a1N [zkN 8 b,(.func (.func b1c) [] [])] [] (.alt (zk3 a1O [zkN 2 c,(.func (.func b1y) [] [])] [] (.alt (zk3 a1P [zkN 5 d,(.func (.func b1t) [] [])] [] (.alt (zk3 a1w [zkN 5 e,(.func (.func a1Y) [] [])] [] (.need true (.ret (zkR (.tuple []) [])))) (.exI fun i=>zk2 a1w [zkN 5 e,(.func (.func a1Y) [] [])] [] (.iface a1a (vI i)) (.need true (.ret (zkQ (.iface a1a (vI i)) [])))))) (.exI fun i=>zk2 a1P [zkN 5 d,(.func (.func b1t) [] [])] [] (.iface a1a (vI i)) (.need true (.ret (zkQ (.iface a1a (vI i)) [])))))) (.exI fun i=>zk2 a1O [zkN 2 c,(.func (.func b1y) [] [])] [] (.iface a1a (vI i)) (.need true (.ret (zkQ (.iface a1a (vI i)) [])))))) (.exI fun i=>zk2 a1N [zkN 8 b,(.func (.func b1c) [] [])] [] (.iface a1a (vI i)) (.need true (.ret (zkQ (.iface a1a (vI i)) [])))))) (.exI fun i=>zk2 a1m [zkN 4 a,(.func (.func a1F) [] [])] [] (.iface a1a (vI i)) (.need true (.ret (zkQ (.iface a1a (vI i)) [])))))) (.exI fun i=>zk2 b1b [zkN 1 p,(.func (.func a1G) [] [])] [] (.iface a1a (vI i)) (.need true (.ret (zkQ (.iface a1a (vI i)) [])))):=by kernel_rfl
@[irreducible] noncomputable def f2N (k:Int) (p a b c:List (List AV)):KT:=kt2 b1t [AV.agg [vI k,AV.slice 1 p Own.no,AV.slice 9 a Own.no,AV.slice 5 b Own.no,AV.slice 5 c Own.no]] []
theorem f2O (k p a b c):kt2 b1t [AV.agg [vI k,AV.slice 1 p Own.no,AV.slice 9 a Own.no,AV.slice 5 b Own.no,AV.slice 5 c Own.no]] []=
 .stage (.branch (decide (k≥1)) (.alt (zk3 a1b [vB (decide (k≤6))] [] (.done (zkS 81 [(1,(.ref [(vI k),(.slice 1 p .no),(.slice 9 a .no),(.slice 5 b .no),(.slice 5 c .no)]))] [] [] 0))) (.exI fun i=>zk2 a1b [vB (decide (k≤6))] [] (.iface a1a (vI i)) (.out (.need true (.ret (zkQ (.iface a1a (vI i)) [])))))) (.alt (zk3 a1b [vB false] [] (.done (zkS 81 [(1,(.ref [(vI k),(.slice 1 p .no),(.slice 9 a .no),(.slice 5 b .no),(.slice 5 c .no)]))] [] [] 0))) (.exI fun i=>zk2 a1b [vB false] [] (.iface a1a (vI i)) (.out (.need true (.ret (zkQ (.iface a1a (vI i)) []))))))) ((f2N k p a b c).K):=by kernel_rfl
@[irreducible] noncomputable def t1l (k:Int) (p a b c:List (List AV)):KT:=(f2N k p a b c).K (zkS 81 [(1,(.ref [(vI k),(.slice 1 p .no),(.slice 9 a .no),(.slice 5 b .no),(.slice 5 c .no)]))] [] [] 0)
theorem a2q (k p a b c):(f2N k p a b c).K (zkS 81 [(1,(.ref [(vI k),(.slice 1 p .no),(.slice 9 a .no),(.slice 5 b .no),(.slice 5 c .no)]))] [] [] 0)=
 .stage (.branch (k==1) (.done (zkS 81 [(1,(.ref [(vI k),(.slice 1 p .no),(.slice 9 a .no),(.slice 5 b .no),(.slice 5 c .no)])),(2,vB true)] [] [] 0)) (.done (zkS 81 [(1,(.ref [(vI k),(.slice 1 p .no),(.slice 9 a .no),(.slice 5 b .no),(.slice 5 c .no)])),(2,vB (k==3))] [] [] 0))) ((t1l k p a b c).K):=by kernel_rfl
@[irreducible] noncomputable def t1m (k:Int) (p a b c:List (List AV)) (q2x0:Bool):KT:=(t1l k p a b c).K (zkS 81 [(1,(.ref [(vI k),(.slice 1 p .no),(.slice 9 a .no),(.slice 5 b .no),(.slice 5 c .no)])),(2,vB q2x0)] [] [] 0)
theorem a2r (k p a b c) (q2x0:Bool):(t1l k p a b c).K (zkS 81 [(1,(.ref [(vI k),(.slice 1 p .no),(.slice 9 a .no),(.slice 5 b .no),(.slice 5 c .no)])),(2,vB q2x0)] [] [] 0)=
 .stage (.branch (k==1) (.done (zkS 81 [(1,(.ref [(vI k),(.slice 1 p .no),(.slice 9 a .no),(.slice 5 b .no),(.slice 5 c .no)])),(2,vB q2x0),(3,vI 0),(4,vI 0)] [] [] 0)) (.branch (k==2) (.done (zkS 81 [(1,(.ref [(vI k),(.slice 1 p .no),(.slice 9 a .no),(.slice 5 b .no),(.slice 5 c .no)])),(2,vB q2x0),(3,vI 0),(4,vI 0)] [] [] 0)) (.branch (k==4) (.done (zkS 81 [(1,(.ref [(vI k),(.slice 1 p .no),(.slice 9 a .no),(.slice 5 b .no),(.slice 5 c .no)])),(2,vB q2x0),(3,vI 1),(4,vI 1)] [] [] 0)) (.branch (k==5) (.done (zkS 81 [(1,(.ref [(vI k),(.slice 1 p .no),(.slice 9 a .no),(.slice 5 b .no),(.slice 5 c .no)])),(2,vB q2x0),(3,vI 1),(4,vI 1)] [] [] 0)) (.done (zkS 81 [(1,(.ref [(vI k),(.slice 1 p .no),(.slice 9 a .no),(.slice 5 b .no),(.slice 5 c .no)])),(2,vB q2x0),(3,vI 1),(4,vI 0)] [] [] 0)))))) ((t1m k p a b c q2x0).K):=by kernel_rfl
@[irreducible] noncomputable def t1n (k:Int) (p a b c:List (List AV)) (q2x0:Bool) (q3x0 q3x1:Int):KT:=(t1m k p a b c q2x0).K (zkS 81 [(1,(.ref [(vI k),(.slice 1 p .no),(.slice 9 a .no),(.slice 5 b .no),(.slice 5 c .no)])),(2,vB q2x0),(3,vI q3x0),(4,vI q3x1)] [] [] 0)
theorem a2s (k p a b c) (q2x0:Bool) (q3x0 q3x1):(t1m k p a b c q2x0).K (zkS 81 [(1,(.ref [(vI k),(.slice 1 p .no),(.slice 9 a .no),(.slice 5 b .no),(.slice 5 c .no)])),(2,vB q2x0),(3,vI q3x0),(4,vI q3x1)] [] [] 0)=
 .stage (.branch q2x0 (.branch (k==2) (.branch ((↑b.length:Int)==q3x0) (.alt (zk3 a1b [vB ((↑c.length:Int)==q3x1)] [] (.done (zkS 81 [(1,(.ref [(vI k),(.slice 1 p .no),(.slice 9 a .no),(.slice 5 b .no),(.slice 5 c .no)])),(2,vB q2x0)] [] [] 0))) (.exI fun i=>zk2 a1b [vB ((↑c.length:Int)==q3x1)] [] (.iface a1a (vI i)) (.out (.need true (.ret (zkQ (.iface a1a (vI i)) [])))))) (.alt (zk3 a1b [vB false] [] (.done (zkS 81 [(1,(.ref [(vI k),(.slice 1 p .no),(.slice 9 a .no),(.slice 5 b .no),(.slice 5 c .no)])),(2,vB q2x0)] [] [] 0))) (.exI fun i=>zk2 a1b [vB false] [] (.iface a1a (vI i)) (.out (.need true (.ret (zkQ (.iface a1a (vI i)) []))))))) (.branch (k==6) (.branch ((↑b.length:Int)==q3x0) (.alt (zk3 a1b [vB ((↑c.length:Int)==q3x1)] [] (.done (zkS 81 [(1,(.ref [(vI k),(.slice 1 p .no),(.slice 9 a .no),(.slice 5 b .no),(.slice 5 c .no)])),(2,vB q2x0)] [] [] 0))) (.exI fun i=>zk2 a1b [vB ((↑c.length:Int)==q3x1)] [] (.iface a1a (vI i)) (.out (.need true (.ret (zkQ (.iface a1a (vI i)) [])))))) (.alt (zk3 a1b [vB false] [] (.done (zkS 81 [(1,(.ref [(vI k),(.slice 1 p .no),(.slice 9 a .no),(.slice 5 b .no),(.slice 5 c .no)])),(2,vB q2x0)] [] [] 0))) (.exI fun i=>zk2 a1b [vB false] [] (.iface a1a (vI i)) (.out (.need true (.ret (zkQ (.iface a1a (vI i)) []))))))) (.branch ((↑a.length:Int)==0) (.branch ((↑b.length:Int)==q3x0) (.alt (zk3 a1b [vB ((↑c.length:Int)==q3x1)] [] (.done (zkS 81 [(1,(.ref [(vI k),(.slice 1 p .no),(.slice 9 a .no),(.slice 5 b .no),(.slice 5 c .no)])),(2,vB q2x0)] [] [] 0))) (.exI fun i=>zk2 a1b [vB ((↑c.length:Int)==q3x1)] [] (.iface a1a (vI i)) (.out (.need true (.ret (zkQ (.iface a1a (vI i)) [])))))) (.alt (zk3 a1b [vB false] [] (.done (zkS 81 [(1,(.ref [(vI k),(.slice 1 p .no),(.slice 9 a .no),(.slice 5 b .no),(.slice 5 c .no)])),(2,vB q2x0)] [] [] 0))) (.exI fun i=>zk2 a1b [vB false] [] (.iface a1a (vI i)) (.out (.need true (.ret (zkQ (.iface a1a (vI i)) []))))))) (.alt (zk3 a1b [vB false] [] (.done (zkS 81 [(1,(.ref [(vI k),(.slice 1 p .no),(.slice 9 a .no),(.slice 5 b .no),(.slice 5 c .no)])),(2,vB q2x0)] [] [] 0))) (.exI fun i=>zk2 a1b [vB false] [] (.iface a1a (vI i)) (.out (.need true (.ret (zkQ (.iface a1a (vI i)) []))))))))) (.branch ((↑p.length:Int)==0) (.branch (k==2) (.branch ((↑b.length:Int)==q3x0) (.alt (zk3 a1b [vB ((↑c.length:Int)==q3x1)] [] (.done (zkS 81 [(1,(.ref [(vI k),(.slice 1 p .no),(.slice 9 a .no),(.slice 5 b .no),(.slice 5 c .no)])),(2,vB q2x0)] [] [] 0))) (.exI fun i=>zk2 a1b [vB ((↑c.length:Int)==q3x1)] [] (.iface a1a (vI i)) (.out (.need true (.ret (zkQ (.iface a1a (vI i)) [])))))) (.alt (zk3 a1b [vB false] [] (.done (zkS 81 [(1,(.ref [(vI k),(.slice 1 p .no),(.slice 9 a .no),(.slice 5 b .no),(.slice 5 c .no)])),(2,vB q2x0)] [] [] 0))) (.exI fun i=>zk2 a1b [vB false] [] (.iface a1a (vI i)) (.out (.need true (.ret (zkQ (.iface a1a (vI i)) []))))))) (.branch (k==6) (.branch ((↑b.length:Int)==q3x0) (.alt (zk3 a1b [vB ((↑c.length:Int)==q3x1)] [] (.done (zkS 81 [(1,(.ref [(vI k),(.slice 1 p .no),(.slice 9 a .no),(.slice 5 b .no),(.slice 5 c .no)])),(2,vB q2x0)] [] [] 0))) (.exI fun i=>zk2 a1b [vB ((↑c.length:Int)==q3x1)] [] (.iface a1a (vI i)) (.out (.need true (.ret (zkQ (.iface a1a (vI i)) [])))))) (.alt (zk3 a1b [vB false] [] (.done (zkS 81 [(1,(.ref [(vI k),(.slice 1 p .no),(.slice 9 a .no),(.slice 5 b .no),(.slice 5 c .no)])),(2,vB q2x0)] [] [] 0))) (.exI fun i=>zk2 a1b [vB false] [] (.iface a1a (vI i)) (.out (.need true (.ret (zkQ (.iface a1a (vI i)) []))))))) (.branch ((↑a.length:Int)==0) (.branch ((↑b.length:Int)==q3x0) (.alt (zk3 a1b [vB ((↑c.length:Int)==q3x1)] [] (.done (zkS 81 [(1,(.ref [(vI k),(.slice 1 p .no),(.slice 9 a .no),(.slice 5 b .no),(.slice 5 c .no)])),(2,vB q2x0)] [] [] 0))) (.exI fun i=>zk2 a1b [vB ((↑c.length:Int)==q3x1)] [] (.iface a1a (vI i)) (.out (.need true (.ret (zkQ (.iface a1a (vI i)) [])))))) (.alt (zk3 a1b [vB false] [] (.done (zkS 81 [(1,(.ref [(vI k),(.slice 1 p .no),(.slice 9 a .no),(.slice 5 b .no),(.slice 5 c .no)])),(2,vB q2x0)] [] [] 0))) (.exI fun i=>zk2 a1b [vB false] [] (.iface a1a (vI i)) (.out (.need true (.ret (zkQ (.iface a1a (vI i)) []))))))) (.alt (zk3 a1b [vB false] [] (.done (zkS 81 [(1,(.ref [(vI k),(.slice 1 p .no),(.slice 9 a .no),(.slice 5 b .no),(.slice 5 c .no)])),(2,vB q2x0)] [] [] 0))) (.exI fun i=>zk2 a1b [vB false] [] (.iface a1a (vI i)) (.out (.need true (.ret (zkQ (.iface a1a (vI i)) []))))))))) (.alt (zk3 a1b [vB false] [] (.done (zkS 81 [(1,(.ref [(vI k),(.slice 1 p .no),(.slice 9 a .no),(.slice 5 b .no),(.slice 5 c .no)])),(2,vB q2x0)] [] [] 0))) (.exI fun i=>zk2 a1b [vB false] [] (.iface a1a (vI i)) (.out (.need true (.ret (zkQ (.iface a1a (vI i)) [])))))))) ((t1n k p a b c q2x0 q3x0 q3x1).K):=by kernel_rfl
@[irreducible] noncomputable def w1T (k:Int) (p a b c:List (List AV)) (q2x0:Bool) (q3x0 q3x1:Int):KT:=(t1n k p a b c q2x0 q3x0 q3x1).K (zkS 81 [(1,(.ref [(vI k),(.slice 1 p .no),(.slice 9 a .no),(.slice 5 b .no),(.slice 5 c .no)])),(2,vB q2x0)] [] [] 0)
theorem a2t (k p a b c) (q2x0:Bool) (q3x0 q3x1):(t1n k p a b c q2x0 q3x0 q3x1).K (zkS 81 [(1,(.ref [(vI k),(.slice 1 p .no),(.slice 9 a .no),(.slice 5 b .no),(.slice 5 c .no)])),(2,vB q2x0)] [] [] 0)=
 .stage (.branch q2x0 (.alt (zk3 b1J [zkN 1 p] [] (.done (zkS 81 [(1,(.ref [(vI k),(.slice 1 p .no),(.slice 9 a .no),(.slice 5 b .no),(.slice 5 c .no)]))] [] [] 0))) (.exI fun i=>zk2 b1J [zkN 1 p] [] (.iface a1a (vI i)) (.out (.need true (.ret (zkQ (.iface a1a (vI i)) [])))))) (.done (zkS 81 [(1,(.ref [(vI k),(.slice 1 p .no),(.slice 9 a .no),(.slice 5 b .no),(.slice 5 c .no)]))] [] [] 0))) ((w1T k p a b c q2x0 q3x0 q3x1).K):=by kernel_rfl
theorem a2u (k p a b c) (q2x0:Bool) (q3x0 q3x1):(w1T k p a b c q2x0 q3x0 q3x1).K (zkS 81 [(1,(.ref [(vI k),(.slice 1 p .no),(.slice 9 a .no),(.slice 5 b .no),(.slice 5 c .no)]))] [] [] 0)=
 .alt (zk3 a1x [zkN 9 a,(.func (.func b1x) [] [])] [] (.alt (zk3 a1P [zkN 5 b,(.func (.func b1t) [] [])] [] (.alt (zk3 a1w [zkN 5 c,(.func (.func a1Y) [] [])] [] (.need true (.ret (zkR (.tuple []) [])))) (.exI fun i=>zk2 a1w [zkN 5 c,(.func (.func a1Y) [] [])] [] (.iface a1a (vI i)) (.need true (.ret (zkQ (.iface a1a (vI i)) [])))))) (.exI fun i=>zk2 a1P [zkN 5 b,(.func (.func b1t) [] [])] [] (.iface a1a (vI i)) (.need true (.ret (zkQ (.iface a1a (vI i)) [])))))) (.exI fun i=>zk2 a1x [zkN 9 a,(.func (.func b1x) [] [])] [] (.iface a1a (vI i)) (.need true (.ret (zkQ (.iface a1a (vI i)) [])))):=by kernel_rfl
@[irreducible] noncomputable def f2P (k:Int) (p a b c:List (List AV)):KT:=kt2 a1Y [AV.agg [vI k,AV.slice 1 p Own.no,AV.slice 6 a Own.no,AV.slice 5 b Own.no,AV.slice 4 c Own.no]] []
theorem f2Q (k p a b c):kt2 a1Y [AV.agg [vI k,AV.slice 1 p Own.no,AV.slice 6 a Own.no,AV.slice 5 b Own.no,AV.slice 4 c Own.no]] []=
 .stage (.branch (decide (k≥1)) (.alt (zk3 a1b [vB (decide (k≤3))] [] (.done (zkS 71 [(1,(.ref [(vI k),(.slice 1 p .no),(.slice 6 a .no),(.slice 5 b .no),(.slice 4 c .no)]))] [] [] 0))) (.exI fun i=>zk2 a1b [vB (decide (k≤3))] [] (.iface a1a (vI i)) (.out (.need true (.ret (zkQ (.iface a1a (vI i)) [])))))) (.alt (zk3 a1b [vB false] [] (.done (zkS 71 [(1,(.ref [(vI k),(.slice 1 p .no),(.slice 6 a .no),(.slice 5 b .no),(.slice 4 c .no)]))] [] [] 0))) (.exI fun i=>zk2 a1b [vB false] [] (.iface a1a (vI i)) (.out (.need true (.ret (zkQ (.iface a1a (vI i)) []))))))) ((f2P k p a b c).K):=by kernel_rfl
@[irreducible] noncomputable def t1o (k:Int) (p a b c:List (List AV)):KT:=(f2P k p a b c).K (zkS 71 [(1,(.ref [(vI k),(.slice 1 p .no),(.slice 6 a .no),(.slice 5 b .no),(.slice 4 c .no)]))] [] [] 0)
theorem a2v (k p a b c):(f2P k p a b c).K (zkS 71 [(1,(.ref [(vI k),(.slice 1 p .no),(.slice 6 a .no),(.slice 5 b .no),(.slice 4 c .no)]))] [] [] 0)=
 .stage (.branch (k==3) (.done (zkS 71 [(1,(.ref [(vI k),(.slice 1 p .no),(.slice 6 a .no),(.slice 5 b .no),(.slice 4 c .no)])),(2,vI 1)] [] [] 0)) (.done (zkS 71 [(1,(.ref [(vI k),(.slice 1 p .no),(.slice 6 a .no),(.slice 5 b .no),(.slice 4 c .no)])),(2,vI 0)] [] [] 0))) ((t1o k p a b c).K):=by kernel_rfl
@[irreducible] noncomputable def t1p (k:Int) (p a b c:List (List AV)) (q2x0:Int):KT:=(t1o k p a b c).K (zkS 71 [(1,(.ref [(vI k),(.slice 1 p .no),(.slice 6 a .no),(.slice 5 b .no),(.slice 4 c .no)])),(2,vI q2x0)] [] [] 0)
theorem a2w (k p a b c q2x0):(t1o k p a b c).K (zkS 71 [(1,(.ref [(vI k),(.slice 1 p .no),(.slice 6 a .no),(.slice 5 b .no),(.slice 4 c .no)])),(2,vI q2x0)] [] [] 0)=
 .stage (.branch (k !=2) (.branch (k==2) (.branch ((↑b.length:Int)==q2x0) (.alt (zk3 a1b [vB ((↑c.length:Int)==q2x0)] [] (.done (zkS 71 [(1,(.ref [(vI k),(.slice 1 p .no),(.slice 6 a .no),(.slice 5 b .no),(.slice 4 c .no)]))] [] [] 0))) (.exI fun i=>zk2 a1b [vB ((↑c.length:Int)==q2x0)] [] (.iface a1a (vI i)) (.out (.need true (.ret (zkQ (.iface a1a (vI i)) [])))))) (.alt (zk3 a1b [vB false] [] (.done (zkS 71 [(1,(.ref [(vI k),(.slice 1 p .no),(.slice 6 a .no),(.slice 5 b .no),(.slice 4 c .no)]))] [] [] 0))) (.exI fun i=>zk2 a1b [vB false] [] (.iface a1a (vI i)) (.out (.need true (.ret (zkQ (.iface a1a (vI i)) []))))))) (.branch ((↑a.length:Int)==0) (.branch ((↑b.length:Int)==q2x0) (.alt (zk3 a1b [vB ((↑c.length:Int)==q2x0)] [] (.done (zkS 71 [(1,(.ref [(vI k),(.slice 1 p .no),(.slice 6 a .no),(.slice 5 b .no),(.slice 4 c .no)]))] [] [] 0))) (.exI fun i=>zk2 a1b [vB ((↑c.length:Int)==q2x0)] [] (.iface a1a (vI i)) (.out (.need true (.ret (zkQ (.iface a1a (vI i)) [])))))) (.alt (zk3 a1b [vB false] [] (.done (zkS 71 [(1,(.ref [(vI k),(.slice 1 p .no),(.slice 6 a .no),(.slice 5 b .no),(.slice 4 c .no)]))] [] [] 0))) (.exI fun i=>zk2 a1b [vB false] [] (.iface a1a (vI i)) (.out (.need true (.ret (zkQ (.iface a1a (vI i)) []))))))) (.alt (zk3 a1b [vB false] [] (.done (zkS 71 [(1,(.ref [(vI k),(.slice 1 p .no),(.slice 6 a .no),(.slice 5 b .no),(.slice 4 c .no)]))] [] [] 0))) (.exI fun i=>zk2 a1b [vB false] [] (.iface a1a (vI i)) (.out (.need true (.ret (zkQ (.iface a1a (vI i)) [])))))))) (.branch ((↑p.length:Int)==0) (.branch (k==2) (.branch ((↑b.length:Int)==q2x0) (.alt (zk3 a1b [vB ((↑c.length:Int)==q2x0)] [] (.done (zkS 71 [(1,(.ref [(vI k),(.slice 1 p .no),(.slice 6 a .no),(.slice 5 b .no),(.slice 4 c .no)]))] [] [] 0))) (.exI fun i=>zk2 a1b [vB ((↑c.length:Int)==q2x0)] [] (.iface a1a (vI i)) (.out (.need true (.ret (zkQ (.iface a1a (vI i)) [])))))) (.alt (zk3 a1b [vB false] [] (.done (zkS 71 [(1,(.ref [(vI k),(.slice 1 p .no),(.slice 6 a .no),(.slice 5 b .no),(.slice 4 c .no)]))] [] [] 0))) (.exI fun i=>zk2 a1b [vB false] [] (.iface a1a (vI i)) (.out (.need true (.ret (zkQ (.iface a1a (vI i)) []))))))) (.branch ((↑a.length:Int)==0) (.branch ((↑b.length:Int)==q2x0) (.alt (zk3 a1b [vB ((↑c.length:Int)==q2x0)] [] (.done (zkS 71 [(1,(.ref [(vI k),(.slice 1 p .no),(.slice 6 a .no),(.slice 5 b .no),(.slice 4 c .no)]))] [] [] 0))) (.exI fun i=>zk2 a1b [vB ((↑c.length:Int)==q2x0)] [] (.iface a1a (vI i)) (.out (.need true (.ret (zkQ (.iface a1a (vI i)) [])))))) (.alt (zk3 a1b [vB false] [] (.done (zkS 71 [(1,(.ref [(vI k),(.slice 1 p .no),(.slice 6 a .no),(.slice 5 b .no),(.slice 4 c .no)]))] [] [] 0))) (.exI fun i=>zk2 a1b [vB false] [] (.iface a1a (vI i)) (.out (.need true (.ret (zkQ (.iface a1a (vI i)) []))))))) (.alt (zk3 a1b [vB false] [] (.done (zkS 71 [(1,(.ref [(vI k),(.slice 1 p .no),(.slice 6 a .no),(.slice 5 b .no),(.slice 4 c .no)]))] [] [] 0))) (.exI fun i=>zk2 a1b [vB false] [] (.iface a1a (vI i)) (.out (.need true (.ret (zkQ (.iface a1a (vI i)) [])))))))) (.alt (zk3 a1b [vB false] [] (.done (zkS 71 [(1,(.ref [(vI k),(.slice 1 p .no),(.slice 6 a .no),(.slice 5 b .no),(.slice 4 c .no)]))] [] [] 0))) (.exI fun i=>zk2 a1b [vB false] [] (.iface a1a (vI i)) (.out (.need true (.ret (zkQ (.iface a1a (vI i)) [])))))))) ((t1p k p a b c q2x0).K):=by kernel_rfl
@[irreducible] noncomputable def t1q (k:Int) (p a b c:List (List AV)) (q2x0:Int):KT:=(t1p k p a b c q2x0).K (zkS 71 [(1,(.ref [(vI k),(.slice 1 p .no),(.slice 6 a .no),(.slice 5 b .no),(.slice 4 c .no)]))] [] [] 0)
theorem a2x (k p a b c q2x0):(t1p k p a b c q2x0).K (zkS 71 [(1,(.ref [(vI k),(.slice 1 p .no),(.slice 6 a .no),(.slice 5 b .no),(.slice 4 c .no)]))] [] [] 0)=
 .stage (.branch (k==1) (.alt (zk3 b1J [zkN 1 p] [] (.done (zkS 71 [(1,(.ref [(vI k),(.slice 1 p .no),(.slice 6 a .no),(.slice 5 b .no),(.slice 4 c .no)]))] [] [] 0))) (.exI fun i=>zk2 b1J [zkN 1 p] [] (.iface a1a (vI i)) (.out (.need true (.ret (zkQ (.iface a1a (vI i)) [])))))) (.done (zkS 71 [(1,(.ref [(vI k),(.slice 1 p .no),(.slice 6 a .no),(.slice 5 b .no),(.slice 4 c .no)]))] [] [] 0))) ((t1q k p a b c q2x0).K):=by kernel_rfl
@[irreducible] noncomputable def w1U (k:Int) (p a b c:List (List AV)) (q2x0:Int):KT:=(t1q k p a b c q2x0).K (zkS 71 [(1,(.ref [(vI k),(.slice 1 p .no),(.slice 6 a .no),(.slice 5 b .no),(.slice 4 c .no)]))] [] [] 0)
theorem a2y (k p a b c q2x0):(t1q k p a b c q2x0).K (zkS 71 [(1,(.ref [(vI k),(.slice 1 p .no),(.slice 6 a .no),(.slice 5 b .no),(.slice 4 c .no)]))] [] [] 0)=
 .stage (.branch (k==3) (.alt (zk3 c1k [zkN 1 p] [] (.done (zkS 71 [(1,(.ref [(vI k),(.slice 1 p .no),(.slice 6 a .no),(.slice 5 b .no),(.slice 4 c .no)]))] [] [] 0))) (.exI fun i=>zk2 c1k [zkN 1 p] [] (.iface a1a (vI i)) (.out (.need true (.ret (zkQ (.iface a1a (vI i)) [])))))) (.done (zkS 71 [(1,(.ref [(vI k),(.slice 1 p .no),(.slice 6 a .no),(.slice 5 b .no),(.slice 4 c .no)]))] [] [] 0))) ((w1U k p a b c q2x0).K):=by kernel_rfl
theorem a2z (k p a b c q2x0):(w1U k p a b c q2x0).K (zkS 71 [(1,(.ref [(vI k),(.slice 1 p .no),(.slice 6 a .no),(.slice 5 b .no),(.slice 4 c .no)]))] [] [] 0)=
 .alt (zk3 a1K [zkN 6 a,(.func (.func b1F) [] [])] [] (.alt (zk3 a1w [zkN 5 b,(.func (.func a1Y) [] [])] [] (.alt (zk3 a1m [zkN 4 c,(.func (.func a1F) [] [])] [] (.need true (.ret (zkR (.tuple []) [])))) (.exI fun i=>zk2 a1m [zkN 4 c,(.func (.func a1F) [] [])] [] (.iface a1a (vI i)) (.need true (.ret (zkQ (.iface a1a (vI i)) [])))))) (.exI fun i=>zk2 a1w [zkN 5 b,(.func (.func a1Y) [] [])] [] (.iface a1a (vI i)) (.need true (.ret (zkQ (.iface a1a (vI i)) [])))))) (.exI fun i=>zk2 a1K [zkN 6 a,(.func (.func b1F) [] [])] [] (.iface a1a (vI i)) (.need true (.ret (zkQ (.iface a1a (vI i)) [])))):=by kernel_rfl
@[irreducible] noncomputable def y1c (k o:Int) (n:ByteArray) (a b c:List (List AV)):KT:=kt2 b1F [AV.agg [vI k,vI o,vS n,AV.slice 4 a Own.no,AV.slice 2 b Own.no,AV.slice 5 c Own.no]] []
theorem d2G (k o) (n:ByteArray) (a b c):kt2 b1F [AV.agg [vI k,vI o,vS n,AV.slice 4 a Own.no,AV.slice 2 b Own.no,AV.slice 5 c Own.no]] []=
 .stage (.branch (decide (k≥1)) (.alt (zk3 a1b [vB (decide (k≤4))] [] (.done (zkS 107 [(1,(.ref [(vI k),(vI o),(vS n),(.slice 4 a .no),(.slice 2 b .no),(.slice 5 c .no)]))] [] [] 0))) (.exI fun i=>zk2 a1b [vB (decide (k≤4))] [] (.iface a1a (vI i)) (.out (.need true (.ret (zkQ (.iface a1a (vI i)) [])))))) (.alt (zk3 a1b [vB false] [] (.done (zkS 107 [(1,(.ref [(vI k),(vI o),(vS n),(.slice 4 a .no),(.slice 2 b .no),(.slice 5 c .no)]))] [] [] 0))) (.exI fun i=>zk2 a1b [vB false] [] (.iface a1a (vI i)) (.out (.need true (.ret (zkQ (.iface a1a (vI i)) []))))))) ((y1c k o n a b c).K):=by kernel_rfl
@[irreducible] noncomputable def o1w (k o:Int) (n:ByteArray) (a b c:List (List AV)):KT:=(y1c k o n a b c).K (zkS 107 [(1,(.ref [(vI k),(vI o),(vS n),(.slice 4 a .no),(.slice 2 b .no),(.slice 5 c .no)]))] [] [] 0)
theorem w1V (k o) (n:ByteArray) (a b c):(y1c k o n a b c).K (zkS 107 [(1,(.ref [(vI k),(vI o),(vS n),(.slice 4 a .no),(.slice 2 b .no),(.slice 5 c .no)]))] [] [] 0)=
 .stage (.branch (k==1) (.branch ((↑a.length:Int)==1) (.branch ((↑b.length:Int)==0) (.alt (zk3 a1b [vB ((↑c.length:Int)==0)] [] (.done (zkS 107 [(1,(.ref [(vI k),(vI o),(vS n),(.slice 4 a .no),(.slice 2 b .no),(.slice 5 c .no)]))] [] [] 0))) (.exI fun i=>zk2 a1b [vB ((↑c.length:Int)==0)] [] (.iface a1a (vI i)) (.out (.need true (.ret (zkQ (.iface a1a (vI i)) [])))))) (.alt (zk3 a1b [vB false] [] (.done (zkS 107 [(1,(.ref [(vI k),(vI o),(vS n),(.slice 4 a .no),(.slice 2 b .no),(.slice 5 c .no)]))] [] [] 0))) (.exI fun i=>zk2 a1b [vB false] [] (.iface a1a (vI i)) (.out (.need true (.ret (zkQ (.iface a1a (vI i)) []))))))) (.alt (zk3 a1b [vB false] [] (.done (zkS 107 [(1,(.ref [(vI k),(vI o),(vS n),(.slice 4 a .no),(.slice 2 b .no),(.slice 5 c .no)]))] [] [] 0))) (.exI fun i=>zk2 a1b [vB false] [] (.iface a1a (vI i)) (.out (.need true (.ret (zkQ (.iface a1a (vI i)) []))))))) (.branch (k==2) (.branch (decide ((↑a.length:Int)≤1)) (.branch ((↑b.length:Int)==0) (.alt (zk3 a1b [vB ((↑c.length:Int)==0)] [] (.done (zkS 107 [(1,(.ref [(vI k),(vI o),(vS n),(.slice 4 a .no),(.slice 2 b .no),(.slice 5 c .no)]))] [] [] 0))) (.exI fun i=>zk2 a1b [vB ((↑c.length:Int)==0)] [] (.iface a1a (vI i)) (.out (.need true (.ret (zkQ (.iface a1a (vI i)) [])))))) (.alt (zk3 a1b [vB false] [] (.done (zkS 107 [(1,(.ref [(vI k),(vI o),(vS n),(.slice 4 a .no),(.slice 2 b .no),(.slice 5 c .no)]))] [] [] 0))) (.exI fun i=>zk2 a1b [vB false] [] (.iface a1a (vI i)) (.out (.need true (.ret (zkQ (.iface a1a (vI i)) []))))))) (.alt (zk3 a1b [vB false] [] (.done (zkS 107 [(1,(.ref [(vI k),(vI o),(vS n),(.slice 4 a .no),(.slice 2 b .no),(.slice 5 c .no)]))] [] [] 0))) (.exI fun i=>zk2 a1b [vB false] [] (.iface a1a (vI i)) (.out (.need true (.ret (zkQ (.iface a1a (vI i)) []))))))) (.branch (k==3) (.branch ((↑a.length:Int)==0) (.branch (decide ((↑b.length:Int)≥1)) (.alt (zk3 a1b [vB ((↑c.length:Int)==0)] [] (.done (zkS 107 [(1,(.ref [(vI k),(vI o),(vS n),(.slice 4 a .no),(.slice 2 b .no),(.slice 5 c .no)]))] [] [] 0))) (.exI fun i=>zk2 a1b [vB ((↑c.length:Int)==0)] [] (.iface a1a (vI i)) (.out (.need true (.ret (zkQ (.iface a1a (vI i)) [])))))) (.alt (zk3 a1b [vB false] [] (.done (zkS 107 [(1,(.ref [(vI k),(vI o),(vS n),(.slice 4 a .no),(.slice 2 b .no),(.slice 5 c .no)]))] [] [] 0))) (.exI fun i=>zk2 a1b [vB false] [] (.iface a1a (vI i)) (.out (.need true (.ret (zkQ (.iface a1a (vI i)) []))))))) (.alt (zk3 a1b [vB false] [] (.done (zkS 107 [(1,(.ref [(vI k),(vI o),(vS n),(.slice 4 a .no),(.slice 2 b .no),(.slice 5 c .no)]))] [] [] 0))) (.exI fun i=>zk2 a1b [vB false] [] (.iface a1a (vI i)) (.out (.need true (.ret (zkQ (.iface a1a (vI i)) []))))))) (.branch (k==4) (.branch ((↑a.length:Int)==0) (.branch ((↑b.length:Int)==0) (.alt (zk3 a1b [vB ((↑c.length:Int)==1)] [] (.done (zkS 107 [(1,(.ref [(vI k),(vI o),(vS n),(.slice 4 a .no),(.slice 2 b .no),(.slice 5 c .no)]))] [] [] 0))) (.exI fun i=>zk2 a1b [vB ((↑c.length:Int)==1)] [] (.iface a1a (vI i)) (.out (.need true (.ret (zkQ (.iface a1a (vI i)) [])))))) (.alt (zk3 a1b [vB false] [] (.done (zkS 107 [(1,(.ref [(vI k),(vI o),(vS n),(.slice 4 a .no),(.slice 2 b .no),(.slice 5 c .no)]))] [] [] 0))) (.exI fun i=>zk2 a1b [vB false] [] (.iface a1a (vI i)) (.out (.need true (.ret (zkQ (.iface a1a (vI i)) []))))))) (.alt (zk3 a1b [vB false] [] (.done (zkS 107 [(1,(.ref [(vI k),(vI o),(vS n),(.slice 4 a .no),(.slice 2 b .no),(.slice 5 c .no)]))] [] [] 0))) (.exI fun i=>zk2 a1b [vB false] [] (.iface a1a (vI i)) (.out (.need true (.ret (zkQ (.iface a1a (vI i)) []))))))) (.done (zkS 107 [(1,(.ref [(vI k),(vI o),(vS n),(.slice 4 a .no),(.slice 2 b .no),(.slice 5 c .no)]))] [] [] 0)))))) ((o1w k o n a b c).K):=by kernel_rfl
@[irreducible] noncomputable def t1r (k o:Int) (n:ByteArray) (a b c:List (List AV)):KT:=(o1w k o n a b c).K (zkS 107 [(1,(.ref [(vI k),(vI o),(vS n),(.slice 4 a .no),(.slice 2 b .no),(.slice 5 c .no)]))] [] [] 0)
theorem w1W (k o) (n:ByteArray) (a b c):(o1w k o n a b c).K (zkS 107 [(1,(.ref [(vI k),(vI o),(vS n),(.slice 4 a .no),(.slice 2 b .no),(.slice 5 c .no)]))] [] [] 0)=
 .stage (.branch (k==4) (.alt (zk3 a1A [vS n] [] (.done (zkS 107 [(1,(.ref [(vI k),(vI o),(vS n),(.slice 4 a .no),(.slice 2 b .no),(.slice 5 c .no)]))] [] [] 0))) (.exI fun i=>zk2 a1A [vS n] [] (.iface a1a (vI i)) (.out (.need true (.ret (zkQ (.iface a1a (vI i)) [])))))) (.alt (zk3 a1G [vS n] [] (.done (zkS 107 [(1,(.ref [(vI k),(vI o),(vS n),(.slice 4 a .no),(.slice 2 b .no),(.slice 5 c .no)]))] [] [] 0))) (.exI fun i=>zk2 a1G [vS n] [] (.iface a1a (vI i)) (.out (.need true (.ret (zkQ (.iface a1a (vI i)) []))))))) ((t1r k o n a b c).K):=by kernel_rfl
theorem w1X (k o) (n:ByteArray) (a b c):(t1r k o n a b c).K (zkS 107 [(1,(.ref [(vI k),(vI o),(vS n),(.slice 4 a .no),(.slice 2 b .no),(.slice 5 c .no)]))] [] [] 0)=
 .alt (zk3 a1m [zkN 4 a,(.func (.func a1F) [] [])] [] (.alt (zk3 a1O [zkN 2 b,(.func (.func b1y) [] [])] [] (.alt (zk3 a1w [zkN 5 c,(.func (.func a1Y) [] [])] [] (.need true (.ret (zkR (.tuple []) [])))) (.exI fun i=>zk2 a1w [zkN 5 c,(.func (.func a1Y) [] [])] [] (.iface a1a (vI i)) (.need true (.ret (zkQ (.iface a1a (vI i)) [])))))) (.exI fun i=>zk2 a1O [zkN 2 b,(.func (.func b1y) [] [])] [] (.iface a1a (vI i)) (.need true (.ret (zkQ (.iface a1a (vI i)) [])))))) (.exI fun i=>zk2 a1m [zkN 4 a,(.func (.func a1F) [] [])] [] (.iface a1a (vI i)) (.need true (.ret (zkQ (.iface a1a (vI i)) [])))):=by kernel_rfl
theorem d2H (k o) (n:ByteArray) (p a b c d e):kt2 b1s [AV.agg [vI k,vI o,vS n,AV.slice 1 p Own.no,AV.slice 4 a Own.no,AV.slice 8 b Own.no,AV.slice 2 c Own.no,AV.slice 5 d Own.no,AV.slice 5 e Own.no]] []=
 .branch (k==1) (.alt (zk3 a1b [vB true] [] (.need true (.ret (zkR (.tuple []) [])))) (.exI fun i=>zk2 a1b [vB true] [] (.iface a1a (vI i)) (.need true (.ret (zkQ (.iface a1a (vI i)) []))))) (.alt (zk3 a1b [vB (k==2)] [] (.need true (.ret (zkR (.tuple []) [])))) (.exI fun i=>zk2 a1b [vB (k==2)] [] (.iface a1a (vI i)) (.need true (.ret (zkQ (.iface a1a (vI i)) []))))):=by kernel_rfl
theorem q1p (l) (i:Nat):KT.round Pg cfg0 rs0 kc2 (l1s l) (zkS 16 [(1,(.func (Fn.func a1F) [] [])),(6,zkN 4 l),(7,vI (↑l.length:Int)),(8,vI (↑i:Int))] [] [] 0)=
 .branch (decide ((↑i:Int)<(↑l.length:Int))) (.exI fun i1=>.exS fun s=>zkR2 fun l1 l2=>.row l (↑i:Int) (zk6 i1 s l1 l2) (.alt (zk3 a1F (zk39 i1 s l1 l2) [] (.done (zkS 16 [(1,(.func (.func a1F) [] [])),(6,zkN 4 l),(7,vI (↑l.length:Int)),(8,vI (wrap .i64 ((↑i:Int)+1)))] [] [] 0))) (.exI fun i2=>zk2 a1F (zk39 i1 s l1 l2) [] (.iface a1a (vI i2)) (.out (.need true (.ret (zkQ (.iface a1a (vI i2)) []))))))) (.out (.need true (.ret (zkR (.tuple []) [])))):=by kernel_rfl
theorem n1f (l) (i:Nat):KT.round Pg cfg0 rs0 kc2 (j1t l) (zkS 16 [(1,(.func (Fn.func b1n) [] [])),(6,zkN 5 l),(7,vI (↑l.length:Int)),(8,vI (↑i:Int))] [] [] 0)=
 .branch (decide ((↑i:Int)<(↑l.length:Int))) (.exI fun i1=>.exS fun s=>.exR fun l1=>.exI fun i2=>.exR fun l2=>.row l (↑i:Int) (zk13 i1 s l1 i2 l2) (.alt (zk3 b1n (zk56 i1 s l1 i2 l2) [] (.done (zkS 16 [(1,(.func (.func b1n) [] [])),(6,zkN 5 l),(7,vI (↑l.length:Int)),(8,vI (wrap .i64 ((↑i:Int)+1)))] [] [] 0))) (.exI fun i3=>zk2 b1n (zk56 i1 s l1 i2 l2) [] (.iface a1a (vI i3)) (.out (.need true (.ret (zkQ (.iface a1a (vI i3)) []))))))) (.out (.need true (.ret (zkR (.tuple []) [])))):=by kernel_rfl
theorem n1g (l) (i:Nat):KT.round Pg cfg0 rs0 kc2 (j1u l) (zkS 16 [(1,(.func (Fn.func b1c) [] [])),(6,zkN 8 l),(7,vI (↑l.length:Int)),(8,vI (↑i:Int))] [] [] 0)=
 .branch (decide ((↑i:Int)<(↑l.length:Int))) (zkI3 fun i1 i2 i3=>zkR5 fun l1 l2 l3 l4 l5=>.row l (↑i:Int) (zk7 i1 i2 i3 l1 l2 l3 l4 l5) (.alt (zk3 b1c (zk67 i1 i2 i3 l1 l2 l3 l4 l5) [] (.done (zkS 16 [(1,(.func (.func b1c) [] [])),(6,zkN 8 l),(7,vI (↑l.length:Int)),(8,vI (wrap .i64 ((↑i:Int)+1)))] [] [] 0))) (.exI fun i4=>zk2 b1c (zk67 i1 i2 i3 l1 l2 l3 l4 l5) [] (.iface a1a (vI i4)) (.out (.need true (.ret (zkQ (.iface a1a (vI i4)) []))))))) (.out (.need true (.ret (zkR (.tuple []) [])))):=by kernel_rfl
theorem n1h (l) (i:Nat):KT.round Pg cfg0 rs0 kc2 (j1v l) (zkS 16 [(1,(.func (Fn.func b1y) [] [])),(6,zkN 2 l),(7,vI (↑l.length:Int)),(8,vI (↑i:Int))] [] [] 0)=
 .branch (decide ((↑i:Int)<(↑l.length:Int))) (.exS fun s=>.exR fun l1=>.row l (↑i:Int) [vS s,zkN 4 l1] (.alt (zk3 b1y [.agg [vS s,zkN 4 l1]] [] (.done (zkS 16 [(1,(.func (.func b1y) [] [])),(6,zkN 2 l),(7,vI (↑l.length:Int)),(8,vI (wrap .i64 ((↑i:Int)+1)))] [] [] 0))) (.exI fun i1=>zk2 b1y [.agg [vS s,zkN 4 l1]] [] (.iface a1a (vI i1)) (.out (.need true (.ret (zkQ (.iface a1a (vI i1)) []))))))) (.out (.need true (.ret (zkR (.tuple []) [])))):=by kernel_rfl
theorem n1i (l) (i:Nat):KT.round Pg cfg0 rs0 kc2 (j1w l) (zkS 16 [(1,(.func (Fn.func b1x) [] [])),(6,zkN 9 l),(7,vI (↑l.length:Int)),(8,vI (↑i:Int))] [] [] 0)=
 .branch (decide ((↑i:Int)<(↑l.length:Int))) (zkI2 fun i1 i2=>.exS fun s=>zkR6 fun l1 l2 l3 l4 l5 l6=>.row l (↑i:Int) (zk43 i1 i2 s l1 l2 l3 l4 l5 l6) (.alt (zk3 b1x (zk92 i1 i2 s l1 l2 l3 l4 l5 l6) [] (.done (zkS 16 [(1,(.func (.func b1x) [] [])),(6,zkN 9 l),(7,vI (↑l.length:Int)),(8,vI (wrap .i64 ((↑i:Int)+1)))] [] [] 0))) (.exI fun i3=>zk2 b1x (zk92 i1 i2 s l1 l2 l3 l4 l5 l6) [] (.iface a1a (vI i3)) (.out (.need true (.ret (zkQ (.iface a1a (vI i3)) []))))))) (.out (.need true (.ret (zkR (.tuple []) [])))):=by kernel_rfl
theorem l1t (l) (i:Nat):KT.round Pg cfg0 rs0 kc2 (h1u l) (zkS 16 [(1,(.func (Fn.func b1s) [] [])),(6,zkN 9 l),(7,vI (↑l.length:Int)),(8,vI (↑i:Int))] [] [] 0)=
 .branch (decide ((↑i:Int)<(↑l.length:Int))) (zkI2 fun i1 i2=>.exS fun s=>zkR6 fun l1 l2 l3 l4 l5 l6=>.row l (↑i:Int) (zk43 i1 i2 s l1 l2 l3 l4 l5 l6) (.alt (zk3 b1s (zk92 i1 i2 s l1 l2 l3 l4 l5 l6) [] (.done (zkS 16 [(1,(.func (.func b1s) [] [])),(6,zkN 9 l),(7,vI (↑l.length:Int)),(8,vI (wrap .i64 ((↑i:Int)+1)))] [] [] 0))) (.exI fun i3=>zk2 b1s (zk92 i1 i2 s l1 l2 l3 l4 l5 l6) [] (.iface a1a (vI i3)) (.out (.need true (.ret (zkQ (.iface a1a (vI i3)) []))))))) (.out (.need true (.ret (zkR (.tuple []) [])))):=by kernel_rfl
theorem n1j (l) (i:Nat):KT.round Pg cfg0 rs0 kc2 (j1x l) (zkS 16 [(1,(.func (Fn.func b1t) [] [])),(6,zkN 5 l),(7,vI (↑l.length:Int)),(8,vI (↑i:Int))] [] [] 0)=
 .branch (decide ((↑i:Int)<(↑l.length:Int))) (.exI fun i1=>zkR4 fun l1 l2 l3 l4=>.row l (↑i:Int) [vI i1,zkN 1 l1,zkN 9 l2,zkN 5 l3,zkN 5 l4] (.alt (zk3 b1t [.agg [vI i1,zkN 1 l1,zkN 9 l2,zkN 5 l3,zkN 5 l4]] [] (.done (zkS 16 [(1,(.func (.func b1t) [] [])),(6,zkN 5 l),(7,vI (↑l.length:Int)),(8,vI (wrap .i64 ((↑i:Int)+1)))] [] [] 0))) (.exI fun i2=>zk2 b1t [.agg [vI i1,zkN 1 l1,zkN 9 l2,zkN 5 l3,zkN 5 l4]] [] (.iface a1a (vI i2)) (.out (.need true (.ret (zkQ (.iface a1a (vI i2)) []))))))) (.out (.need true (.ret (zkR (.tuple []) [])))):=by kernel_rfl
theorem n1k (l) (i:Nat):KT.round Pg cfg0 rs0 kc2 (j1y l) (zkS 16 [(1,(.func (Fn.func a1Y) [] [])),(6,zkN 5 l),(7,vI (↑l.length:Int)),(8,vI (↑i:Int))] [] [] 0)=
 .branch (decide ((↑i:Int)<(↑l.length:Int))) (.exI fun i1=>zkR4 fun l1 l2 l3 l4=>.row l (↑i:Int) [vI i1,zkN 1 l1,zkN 6 l2,zkN 5 l3,zkN 4 l4] (.alt (zk3 a1Y [.agg [vI i1,zkN 1 l1,zkN 6 l2,zkN 5 l3,zkN 4 l4]] [] (.done (zkS 16 [(1,(.func (.func a1Y) [] [])),(6,zkN 5 l),(7,vI (↑l.length:Int)),(8,vI (wrap .i64 ((↑i:Int)+1)))] [] [] 0))) (.exI fun i2=>zk2 a1Y [.agg [vI i1,zkN 1 l1,zkN 6 l2,zkN 5 l3,zkN 4 l4]] [] (.iface a1a (vI i2)) (.out (.need true (.ret (zkQ (.iface a1a (vI i2)) []))))))) (.out (.need true (.ret (zkR (.tuple []) [])))):=by kernel_rfl
theorem l1u (l) (i:Nat):KT.round Pg cfg0 rs0 kc2 (h1v l) (zkS 16 [(1,(.func (Fn.func b1F) [] [])),(6,zkN 6 l),(7,vI (↑l.length:Int)),(8,vI (↑i:Int))] [] [] 0)=
 .branch (decide ((↑i:Int)<(↑l.length:Int))) (zkI2 fun i1 i2=>.exS fun s=>zkR3 fun l1 l2 l3=>.row l (↑i:Int) [vI i1,vI i2,vS s,zkN 4 l1,zkN 2 l2,zkN 5 l3] (.alt (zk3 b1F [.agg [vI i1,vI i2,vS s,zkN 4 l1,zkN 2 l2,zkN 5 l3]] [] (.done (zkS 16 [(1,(.func (.func b1F) [] [])),(6,zkN 6 l),(7,vI (↑l.length:Int)),(8,vI (wrap .i64 ((↑i:Int)+1)))] [] [] 0))) (.exI fun i3=>zk2 b1F [.agg [vI i1,vI i2,vS s,zkN 4 l1,zkN 2 l2,zkN 5 l3]] [] (.iface a1a (vI i3)) (.out (.need true (.ret (zkQ (.iface a1a (vI i3)) []))))))) (.out (.need true (.ret (zkR (.tuple []) [])))):=by kernel_rfl
theorem i1V (l) (i:Nat):KT.round Pg cfg0 rs0 kc2 (e1O l) (zkS 16 [(1,(.func (Fn.func a1G) [] [])),(6,zkN 1 l),(7,vI (↑l.length:Int)),(8,vI (↑i:Int))] [] [] 0)=
 .branch (decide ((↑i:Int)<(↑l.length:Int))) (.exS fun s=>.row l (↑i:Int) [vS s] (.alt (zk3 a1G [vS s] [] (.done (zkS 16 [(1,(.func (.func a1G) [] [])),(6,zkN 1 l),(7,vI (↑l.length:Int)),(8,vI (wrap .i64 ((↑i:Int)+1)))] [] [] 0))) (.exI fun i1=>zk2 a1G [vS s] [] (.iface a1a (vI i1)) (.out (.need true (.ret (zkQ (.iface a1a (vI i1)) []))))))) (.out (.need true (.ret (zkR (.tuple []) [])))):=by kernel_rfl
theorem i1r (l) (i:Nat):KT.round Pg cfg0 rs0 kc2 (e1z l) (zkS 16 [(1,(.func (Fn.func a1A) [] [])),(6,zkN 1 l),(7,vI (↑l.length:Int)),(8,vI (↑i:Int))] [] [] 0)=
 .branch (decide ((↑i:Int)<(↑l.length:Int))) (.exS fun s=>.row l (↑i:Int) [vS s] (.alt (zk3 a1A [vS s] [] (.done (zkS 16 [(1,(.func (.func a1A) [] [])),(6,zkN 1 l),(7,vI (↑l.length:Int)),(8,vI (wrap .i64 ((↑i:Int)+1)))] [] [] 0))) (.exI fun i1=>zk2 a1A [vS s] [] (.iface a1a (vI i1)) (.out (.need true (.ret (zkQ (.iface a1a (vI i1)) []))))))) (.out (.need true (.ret (zkR (.tuple []) [])))):=by kernel_rfl
theorem w1Y (s:ByteArray) (i:Nat):KT.round Pg cfg0 rs0 kc2 (w1P s) (zkS 52 [(0,vS s),(20,vI (↑s.size:Int)),(21,vI (↑i:Int))] [] [] 0)=
 .branch (decide ((↑i:Int)<(↑s.size:Int))) (.exY fun y=>.byte s (↑i:Int) y (zk5 d1X [(.val (.int .u8 ((↑y.toNat:Int))))] [] (fun b=>.branch (!b) (zk5 d1L [(.val (.int .u8 ((↑y.toNat:Int))))] [] (fun b1=>.branch (!b1) (zk5 e1F [(.val (.int .u8 ((↑y.toNat:Int))))] [] (fun b2=>.branch (!b2) (.branch ((↑y.toNat:Int)!=95) (.out (.need true (.ret (zkR (vI 12) [])))) (.done (zkS 52 [(0,vS s),(20,vI (↑s.size:Int)),(21,vI (wrap .i64 ((↑i:Int)+1)))] [] [] 0))) (.done (zkS 52 [(0,vS s),(20,vI (↑s.size:Int)),(21,vI (wrap .i64 ((↑i:Int)+1)))] [] [] 0)))) (.done (zkS 52 [(0,vS s),(20,vI (↑s.size:Int)),(21,vI (wrap .i64 ((↑i:Int)+1)))] [] [] 0)))) (.done (zkS 52 [(0,vS s),(20,vI (↑s.size:Int)),(21,vI (wrap .i64 ((↑i:Int)+1)))] [] [] 0))))) (.out (.branch (decide ((↑s.size:Int)>32)) (.need true (.ret (zkR (vI 3) []))) (zk5 b1X [vS s] [] (fun b=>.branch b (.need true (.ret (zkR (vI 12) []))) (.need true (.ret (zkR (vI 0) []))))))):=by kernel_rfl
theorem w1Z (s:ByteArray) (i:Nat):KT.round Pg cfg0 rs0 kc2 (w1Q s) (zkS 35 [(0,vS s),(18,vI (↑s.size:Int)),(19,vI (↑i:Int))] [] [] 0)=
 .branch (decide ((↑i:Int)<(↑s.size:Int))) (.exY fun y=>.byte s (↑i:Int) y (zk5 d1X [(.val (.int .u8 ((↑y.toNat:Int))))] [] (fun b=>.branch (!b) (.exY fun y1=>.byte s (↑i:Int) y1 (zk5 e1F [(.val (.int .u8 ((↑y1.toNat:Int))))] [] (fun b1=>.branch (!b1) (.out (.need true (.ret (zkR (vB false) [])))) (.done (zkS 35 [(0,vS s),(18,vI (↑s.size:Int)),(19,vI (wrap .i64 ((↑i:Int)+1)))] [] [] 0))))) (.done (zkS 35 [(0,vS s),(18,vI (↑s.size:Int)),(19,vI (wrap .i64 ((↑i:Int)+1)))] [] [] 0))))) (.out (.need true (.ret (zkR (vB true) [])))):=by kernel_rfl
theorem a2A (p) (i:Nat):KT.round Pg cfg0 rs0 kc2 (d2w p) (zkS 38 [(0,zkN 1 p),(14,zkN 1 p),(15,vI (↑p.length:Int)),(16,vI (↑i:Int))] [] [] 0)=
 .branch (decide ((↑i:Int)<(↑p.length:Int))) (.exS fun s=>.row p (↑i:Int) [vS s] (zk16 b1Z [vS s] [] (fun i1=>.branch (i1 !=0) (.out (.need true (.ret (zkR (vI i1) [])))) (.branch (decide ((↑i:Int)<wrap .i64 ((↑p.length:Int)-1))) (.exY fun y=>.byte s 0 y (zk5 d1L [(.val (.int .u8 ((↑y.toNat:Int))))] [] (fun b=>.branch (!b) (.out (.need true (.ret (zkR (vI 12) [])))) (.done (zkS 38 [(0,zkN 1 p),(14,zkN 1 p),(15,vI (↑p.length:Int)),(16,vI (wrap .i64 ((↑i:Int)+1)))] [] [] 0))))) (.done (zkS 38 [(0,zkN 1 p),(14,zkN 1 p),(15,vI (↑p.length:Int)),(16,vI (wrap .i64 ((↑i:Int)+1)))] [] [] 0)))))) (.out (.need true (.ret (zkR (vI 0) [])))):=by kernel_rfl
end Go.Proofs.Ck
end

section
/- the checks of names and paths, and small ones: each answers something (or panics with an error) -/
open Go Go.Eng
namespace Go.Proofs.Ck
set_option linter.unusedVariables false
set_option linter.unusedSimpArgs false
set_option maxRecDepth 100000
def oc (e:Int):Out:=if e=0 then .ret (.tuple []) else .panic (.iface a1a (vI e))
theorem b1w:∃e,e≠4∧(⟨.ret (.tuple []),.none,[]⟩:CRes)=⟨oc e,.none,[]⟩:=⟨0,by decide,rfl⟩
theorem a1z {e:Int} (h:e≠0∧e≠4):∃e',e'≠4∧(⟨.panic (.iface a1a (vI e)),.none,[]⟩:CRes)=⟨oc e',.none,[]⟩:=⟨e,h.2,by unfold oc;rw[if_neg h.1]⟩
theorem v1k {f:FuncId} {args:List AV} {H:Heap} {Q:CRes→Prop} (h:(kt2 f args H).wp Pg cfg0 evp [] Q):∃r,evp f args .none H=some r∧Q r:=by
 delta kt2 at h
 exact d1P (d1f hx0) h
theorem d1K {f:FuncId} {args:List AV} (h:(kt2 f args []).wp Pg cfg0 evp [] (fun r=>∃e,e≠4∧r=⟨oc e,.none,[]⟩)):∃e,e≠4∧evp f args .none []=some ⟨oc e,.none,[]⟩:=by
 obtain⟨r,h1,e,he4,rfl⟩:=v1k h
 exact⟨e,he4,h1⟩
theorem v1l {f:FuncId} {args:List AV} (h:(kt2 f args []).wp Pg cfg0 evp [] (fun r=>∃e,r=⟨.ret (vB e),.none,[]⟩)):∃e,evp f args .none []=some ⟨.ret (vB e),.none,[]⟩:=by
 obtain⟨r,h1,e,rfl⟩:=v1k h
 exact⟨e,h1⟩
section
variable {QD:List (St→Prop)} {QR:CRes→Prop}
theorem a1c {g:FuncId} {args:List AV} {t:KT} {f:Int→KT} (hc:∃e,e≠4∧evp g args .none []=some ⟨oc e,.none,[]⟩) (h1:t.wp Pg cfg0 evp QD QR) (h2:∀e,e≠0∧e≠4→(f e).wp Pg cfg0 evp QD QR):
  (KT.alt (.call g args .none [] ⟨.ret (.tuple []),.none,[]⟩ t) (.exI fun i=>.call g args .none [] ⟨.panic (.iface a1a (vI i)),.none,[]⟩ (f i))).wp Pg cfg0 evp QD QR:=by
 obtain⟨e,h4,he⟩:=hc
 by_cases h:e=0
 ·subst h
  exact .inl ⟨he,h1⟩
 ·refine .inr ⟨e,?_,h2 e ⟨h,h4⟩⟩
  unfold oc at he;rw[if_neg h] at he;exact he
theorem k1k {s:ByteArray} {i:Int} {k:UInt8→KT} (h0:0≤i) (h:i.toNat<s.size) (hk:∀y,(k y).wp Pg cfg0 evp QD QR):(KT.exY fun y=>.byte s i y (k y)).wp Pg cfg0 evp QD QR:=
 ⟨s[i.toNat],⟨h0,by rw[getElem?_pos s i.toNat h]⟩,hk _⟩
end
theorem c2Z {s:ByteArray} (h:(s.toList==(⟨#[]⟩:ByteArray).toList)=false):0<s.size:=by
 rcases Nat.eq_zero_or_pos s.size with h0|h0
 ·exfalso
  obtain⟨d⟩:=s
  have:d= #[]:=Array.eq_empty_of_size_eq_zero h0
  subst this
  simp at h
 ·exact h0
theorem d2a (c:UInt8):∃e,evp d1X [.val (.int .u8 c.toNat)] .none []=some ⟨.ret (vB e),.none,[]⟩:=v1l (a1j (f2G c) (by repeat' first|exact⟨_,rfl⟩|refine a1u ?_|refine a1d (fun h=>?_) (fun h=>?_)))
theorem x1Y (c:UInt8):∃e,evp d1L [.val (.int .u8 c.toNat)] .none []=some ⟨.ret (vB e),.none,[]⟩:=v1l (a1j (d2x c) (by repeat' first|exact⟨_,rfl⟩|refine a1u ?_|refine a1d (fun h=>?_) (fun h=>?_)))
theorem d2b (c:UInt8):∃e,evp e1F [.val (.int .u8 c.toNat)] .none []=some ⟨.ret (vB e),.none,[]⟩:=v1l (a1j (z1R c) (by repeat' first|exact⟨_,rfl⟩|refine a1u ?_|refine a1d (fun h=>?_) (fun h=>?_)))
theorem c_Reserved (s:ByteArray):∃e,evp b1X [vS s] .none []=some ⟨.ret (vB e),.none,[]⟩:=v1l (a1j (X_Reserved_eq s) (by repeat' first|exact⟨_,rfl⟩|refine a1u ?_|refine a1d (fun h=>?_) (fun h=>?_)))
theorem d1h (b:Bool):∃e,e≠4∧evp a1b [vB b] .none []=some ⟨oc e,.none,[]⟩:=d1K (a1j (f2H b) (by repeat' first|exact b1w|exact a1z (by decide)|refine a1u ?_|refine a1d (fun h=>?_) (fun h=>?_)))
theorem b1D (n l m:Int):∃e,e≠4∧evp b1O [vI n,vI l,vI m] .none []=some ⟨oc e,.none,[]⟩:=d1K (a1j (z1W n l m) (by repeat' first|exact b1w|exact a1z (by assumption)|refine a1u ?_|refine a1c (d1h _) ?_ (fun e h=>?_)|refine a1d (fun h=>?_) (fun h=>?_)))
theorem h2T (k:Int):∃a b c,evp f1l [vI k] .none []=some ⟨.ret (.tuple [vI a,vI b,vI c]),.none,[]⟩:=by
 obtain⟨r,h1,a,b,c,rfl⟩:=v1k (Q:=fun r=>∃a b c,r=⟨.ret (.tuple [vI a,vI b,vI c]),.none,[]⟩) (a1j (z1X k) (by repeat' first|exact⟨_,_,_,rfl⟩|refine a1u ?_|refine a1d (fun h=>?_) (fun h=>?_)))
 exact⟨a,b,c,h1⟩
theorem h2U (s:ByteArray):(d2y s).K ⟨tm2 52 [(0,(vS (s)))],lm2 52 [],⟨[],[],.none,0⟩⟩=w1P s:=by kernel_rfl
theorem h2V (s:ByteArray):(d2z s).K ⟨tm2 35 [(0,(vS (s)))],lm2 35 [],⟨[],[],.none,0⟩⟩=w1Q s:=by kernel_rfl
theorem j2L (p:List (List AV)):(g2F p).F.F=d2w p:=by kernel_rfl
theorem h2W {s:ByteArray} (hs:s.size<4611686018427387904):∃e,evp b1Z [vS s] .none []=some ⟨.ret (vI e),.none,[]⟩∧(e=0→0<s.size)∧e≠4:=by
 obtain⟨r,h1,e,rfl,h2⟩:=v1k (f:=b1Z) (args:=[vS s]) (H:=[]) (Q:=fun r=>∃e,r=⟨.ret (vI e),.none,[]⟩∧(e=0→0<s.size)∧e≠4) (by
  have hl:0<s.size→(w1P s).wp Pg cfg0 evp [] (fun r=>∃e,r=⟨.ret (vI e),.none,[]⟩∧(e=0→0<s.size)∧e≠4):=by
   intro hpos
   refine m1q (fun i:Nat=>⟨tm2 52 [(0,(vS (s))),(20,(vI ((↑s.size:Int)))),(21,(vI i))],lm2 52 [],⟨[],[],.none,0⟩⟩) (fun i=>i≤s.size) (fun i=>s.size-i) 0 (by kernel_rfl) (Nat.zero_le _) ?_
   intro i hi
   refine a1j (w1Y s i) ?_
   refine a1d (fun h=>?_) (fun h=>?_)
   ·have h:=of_decide_eq_true h
    rw[a1Z (x:=i) (by omega)]
    refine k1k (Int.natCast_nonneg i) (by rw[Int.toNat_natCast];omega) (fun y=>?_)
    repeat' first
     |exact⟨_,rfl,fun h=>absurd h (by decide),by decide⟩
     |exact a1e ⟨i+1,⟨by omega,by omega⟩,rfl⟩
     |refine a1u ?_
     |refine a1h ?_
     |refine a1n (d2a _) (fun b=>?_)
     |refine a1n (x1Y _) (fun b=>?_)
     |refine a1n (d2b _) (fun b=>?_)
     |refine a1d (fun h=>?_) (fun h=>?_)
   ·repeat' first
     |exact⟨_,rfl,fun h=>absurd h (by decide),by decide⟩
     |exact⟨_,rfl,fun _=>hpos,by decide⟩
     |refine a1u ?_
     |refine a1h ?_
     |refine a1n (c_Reserved _) (fun b=>?_)
     |refine a1d (fun h=>?_) (fun h=>?_)
  refine a1j (z1S s) (a1t (a1d (fun h=>?_) (fun h=>?_)))
  ·exact a1h (a1u ⟨_,rfl,fun h=>absurd h (by decide),by decide⟩)
  ·have hp:=c2Z h
   repeat' first
    |exact⟨_,rfl,fun h=>absurd h (by decide),by decide⟩
    |exact a1e (a1j (h2U s) (hl hp))
    |refine a1u ?_
    |refine a1h ?_
    |refine k1k (by decide) (by simpa using hp) (fun y=>?_)
    |refine a1n (d2a _) (fun b=>?_)
    |refine a1n (x1Y _) (fun b=>?_)
    |refine a1d (fun h=>?_) (fun h=>?_))
 exact⟨e,h1,h2⟩
end Go.Proofs.Ck
end

section
/- the checks of names and paths, further -/
open Go Go.Eng
namespace Go.Proofs.Ck
set_option linter.unusedVariables false
set_option linter.unusedSimpArgs false
set_option maxRecDepth 100000
def c1h:Nat:=4611686018427387904
section
variable {QD:List (St→Prop)} {QR:CRes→Prop}
theorem m1o {s:ByteArray} {k:Int→KT} (hs:s.size<c1h) (h:∀i,(i=0→0<s.size)→i≠4→(k i).wp Pg cfg0 evp QD QR):(KT.exI fun i=>.call b1Z [vS s] .none [] ⟨.ret (vI i),.none,[]⟩ (k i)).wp Pg cfg0 evp QD QR:=by
 obtain⟨i,h1,h2,h4⟩:=h2W hs
 exact⟨i,h1,h i h2 h4⟩
end
theorem d1q {s:ByteArray} (hs:s.size<c1h):∃e,evp d1V [vS s] .none []=some ⟨.ret (vB e),.none,[]⟩:=by
 unfold c1h at hs
 refine v1l ?_
 have hl:(w1Q s).wp Pg cfg0 evp [] (fun r=>∃e,r=⟨.ret (vB e),.none,[]⟩):=by
  refine m1q (fun i:Nat=>⟨tm2 35 [(0,(vS (s))),(18,(vI ((↑s.size:Int)))),(19,(vI i))],lm2 35 [],⟨[],[],.none,0⟩⟩) (fun i=>i≤s.size) (fun i=>s.size-i) 0 (by kernel_rfl) (Nat.zero_le _) ?_
  intro i hi
  refine a1j (w1Z s i) ?_
  refine a1d (fun h=>?_) (fun h=>?_)
  ·have h:=of_decide_eq_true h
   rw[a1Z (x:=i) (by omega)]
   refine k1k (Int.natCast_nonneg i) (by rw[Int.toNat_natCast];omega) (fun y=>?_)
   repeat' first
    |exact⟨_,rfl⟩
    |exact a1e ⟨i+1,⟨by omega,by omega⟩,rfl⟩
    |refine a1u ?_
    |refine a1h ?_
    |refine a1n (d2a _) (fun b=>?_)
    |refine a1n (d2b _) (fun b=>?_)
    |refine a1d (fun h=>?_) (fun h=>?_)
    |refine k1k (Int.natCast_nonneg i) (by rw[Int.toNat_natCast];omega) (fun y=>?_)
  ·repeat' first
    |exact⟨_,rfl⟩
    |refine a1u ?_
    |refine a1h ?_
    |refine a1d (fun h=>?_) (fun h=>?_)
 refine a1j (z1T s) (a1t (a1d (fun h=>?_) (fun h=>?_)))
 ·exact a1h (a1u ⟨_,rfl⟩)
 ·have hp:=c2Z h
  repeat' first
   |exact⟨_,rfl⟩
   |exact a1e (a1j (h2V s) hl)
   |refine a1u ?_
   |refine a1h ?_
   |refine k1k (by decide) (by simpa using hp) (fun y=>?_)
   |refine a1n (d2a _) (fun b=>?_)
   |refine a1d (fun h=>?_) (fun h=>?_)
theorem d2c {s:ByteArray} (hs:s.size<c1h):∃e,evp e1D [vS s] .none []=some ⟨.ret (vB e),.none,[]⟩:=by
 refine v1l (a1j (z1U s) (m1o hs fun i hi h4=>?_))
 repeat' first
  |exact⟨_,rfl⟩
  |refine a1u ?_
  |refine k1k (by decide) (by simpa using hi (beq_iff_eq.1 (by assumption))) (fun y=>?_)
  |refine a1n (d2a _) (fun b=>?_)
  |refine a1d (fun h=>?_) (fun h=>?_)
theorem d2d {s:ByteArray} (hs:s.size<c1h):∃e,evp e1E [vS s] .none []=some ⟨.ret (vB e),.none,[]⟩:=by
 refine v1l (a1j (z1V s) (m1o hs fun i hi h4=>?_))
 repeat' first
  |exact⟨_,rfl⟩
  |refine a1u ?_
  |refine k1k (by decide) (by simpa using hi (beq_iff_eq.1 (by assumption))) (fun y=>?_)
  |refine a1n (x1Y _) (fun b=>?_)
  |refine a1d (fun h=>?_) (fun h=>?_)
theorem c1a {s:ByteArray} (hs:s.size<c1h):∃e,e≠4∧evp a1G [vS s] .none []=some ⟨oc e,.none,[]⟩:=by
 refine d1K (a1j (v1o s) (m1o hs fun i hi h4=>?_))
 repeat' first
  |exact b1w
  |exact a1z (by decide)
  |exact a1z ⟨bne_iff_ne.1 (by assumption),by assumption⟩
  |refine a1u ?_
  |refine a1n (d2c hs) (fun b=>?_)
  |refine a1d (fun h=>?_) (fun h=>?_)
theorem b1H {s:ByteArray} (hs:s.size<c1h):∃e,e≠4∧evp a1A [vS s] .none []=some ⟨oc e,.none,[]⟩:=by
 refine d1K (a1j (s1Z s) (m1o hs fun i hi h4=>?_))
 repeat' first
  |exact b1w
  |exact a1z (by decide)
  |exact a1z ⟨bne_iff_ne.1 (by assumption),by assumption⟩
  |refine a1u ?_
  |refine a1n (d2d hs) (fun b=>?_)
  |refine a1d (fun h=>?_) (fun h=>?_)
def Strs (p:List (List AV)):Prop:=∀r∈p,∃s:ByteArray,r=[vS s]∧s.size<c1h
theorem Strs.at {p:List (List AV)} (h:Strs p) {i:Nat} (hi:i<p.length):∃s:ByteArray,p[i]? =some [vS s]∧s.size<c1h:=by
 obtain⟨s,h1,h2⟩:=h p[i] (List.getElem_mem hi)
 exact⟨s,by rw[List.getElem?_eq_getElem hi,h1],h2⟩
theorem j2M {p:List (List AV)} (hp:Strs p):∃e,evp c1Q [.slice 1 p .no] .none []=some ⟨.ret (vI e),.none,[]⟩∧(e=0→0<p.length∧p.length≤8)∧e≠4:=by
 obtain⟨r,h1,e,rfl,h2⟩:=v1k (f:=c1Q) (args:=[.slice 1 p .no]) (H:=[]) (Q:=fun r=>∃e,r=⟨.ret (vI e),.none,[]⟩∧(e=0→0<p.length∧p.length≤8)∧e≠4) (by
  have hl:0<p.length→p.length≤8→(d2w p).wp Pg cfg0 evp [] (fun r=>∃e,r=⟨.ret (vI e),.none,[]⟩∧(e=0→0<p.length∧p.length≤8)∧e≠4):=by
   intro hpos hle
   refine m1q (fun i:Nat=>⟨tm2 38 [(0,(.slice 1 (p) .no)),(14,(.slice 1 (p) .no)),(15,(vI ((↑p.length:Int)))),(16,(vI i))],lm2 38 [],⟨[],[],.none,0⟩⟩) (fun i=>i≤p.length) (fun i=>p.length-i) 0 (by kernel_rfl) (Nat.zero_le _) ?_
   intro i hi
   refine a1j (a2A p i) ?_
   refine a1d (fun h=>?_) (fun h=>?_)
   ·have h:=of_decide_eq_true h
    obtain⟨s,hs1,hs2⟩:=hp.at (i:=i) (by omega)
    rw[a1Z (x:=i) (by omega)]
    refine⟨s,⟨Int.natCast_nonneg i,hs1⟩,m1o hs2 fun j hj h4=>?_⟩
    refine a1d (fun h=>?_) (fun h=>?_)
    ·exact a1h (a1u ⟨_,rfl,fun h0=>absurd h0 (bne_iff_ne.1 h),h4⟩)
    ·have hj0:j=0:=by simpa using h
     repeat' first
      |exact⟨_,rfl,fun h=>absurd h (by decide),by decide⟩
      |exact a1e ⟨i+1,⟨by omega,by omega⟩,rfl⟩
      |refine a1u ?_
      |refine a1h ?_
      |refine k1k (by decide) (by simpa using hj hj0) (fun y=>?_)
      |refine a1n (x1Y _) (fun b=>?_)
      |refine a1d (fun h=>?_) (fun h=>?_)
   ·exact a1h (a1u ⟨_,rfl,fun _=>⟨hpos,hle⟩,by decide⟩)
  refine a1j (d2A p) (a1d (fun h=>?_) (fun h=>a1d (fun h2=>?_) (fun h2=>?_)))
  ·exact a1u ⟨_,rfl,fun h=>absurd h (by decide),by decide⟩
  ·exact a1u ⟨_,rfl,fun h=>absurd h (by decide),by decide⟩
  ·have h2:=of_decide_eq_false h2
   have h:=beq_eq_false_iff_ne.1 h
   exact a1j (j2L p) (hl (by omega) (by omega)))
 exact⟨e,h1,h2⟩
section
variable {QD:List (St→Prop)} {QR:CRes→Prop}
theorem d2e {p:List (List AV)} {k:Int→KT} (hp:Strs p) (h:∀i,(i=0→0<p.length∧p.length≤8)→i≠4→(k i).wp Pg cfg0 evp QD QR):(KT.exI fun i=>.call c1Q [.slice 1 p .no] .none [] ⟨.ret (vI i),.none,[]⟩ (k i)).wp Pg cfg0 evp QD QR:=by
 obtain⟨i,h1,h2,h4⟩:=j2M hp
 exact⟨i,h1,h i h2 h4⟩
end
theorem d2f {p:List (List AV)} (hp:Strs p) (h:0<p.length∧p.length≤8):∃s:ByteArray,(0≤IntKind.i64.wrap ((p.length:Int)-1)∧p[(IntKind.i64.wrap ((p.length:Int)-1)).toNat]? =some [vS s])∧s.size<c1h:=by
 have e:IntKind.i64.wrap ((p.length:Int)-1)=((p.length-1:Nat):Int):=by
  obtain⟨n,hn⟩:∃n,p.length=n+1:=⟨p.length-1,by omega⟩
  rw[hn,g1x (by omega)];rfl
 obtain⟨s,h1,h2⟩:=hp.at (i:=p.length-1) (by omega)
 exact⟨s,⟨by rw[e];omega,by rw[e,Int.toNat_natCast];exact h1⟩,h2⟩
theorem a1V {p:List (List AV)} (hp:Strs p):∃e,e≠4∧evp c1k [.slice 1 p .no] .none []=some ⟨oc e,.none,[]⟩:=by
 refine d1K (a1j (v1p p) (d2e hp fun i hi h4=>a1d (fun h=>?_) (fun h=>?_)))
 ·repeat' first
   |exact a1z ⟨bne_iff_ne.1 h,h4⟩
   |refine a1u ?_
 ·obtain⟨s,h1,h2⟩:=d2f hp (hi (by simpa using h))
  refine a1u ⟨s,h1,?_⟩
  repeat' first
   |exact b1w
   |exact a1z (by decide)
   |refine a1u ?_
   |refine a1n (d2c h2) (fun b=>?_)
   |refine a1d (fun h=>?_) (fun h=>?_)
theorem a1I {p:List (List AV)} (hp:Strs p):∃e,e≠4∧evp b1J [.slice 1 p .no] .none []=some ⟨oc e,.none,[]⟩:=by
 refine d1K (a1j (t1a p) (d2e hp fun i hi h4=>a1d (fun h=>?_) (fun h=>?_)))
 ·repeat' first
   |exact a1z ⟨bne_iff_ne.1 h,h4⟩
   |refine a1u ?_
 ·obtain⟨s,h1,h2⟩:=d2f hp (hi (by simpa using h))
  refine a1u ⟨s,h1,?_⟩
  repeat' first
   |exact b1w
   |exact a1z (by decide)
   |refine a1u ?_
   |refine a1n (d2d h2) (fun b=>?_)
   |refine a1d (fun h=>?_) (fun h=>?_)
theorem b1I {p:List (List AV)} (hp:Strs p):∃e,evp g1v [.slice 1 p .no] .none []=some ⟨.ret (vB e),.none,[]⟩:=by
 refine v1l (a1j (z1Y p) (a1d (fun h=>?_) (fun h=>?_)))
 ·have hl:p.length=1:=by have:=beq_iff_eq.1 h;omega
  obtain⟨s,h1,h2⟩:=hp.at (i:=0) (by omega)
  repeat' first
   |exact⟨_,rfl⟩
   |refine a1u ?_
   |refine⟨s,⟨by decide,h1⟩,?_⟩
   |refine a1d (fun h=>?_) (fun h=>?_)
 ·repeat' first
   |exact⟨_,rfl⟩
   |refine a1u ?_
end Go.Proofs.Ck
end
