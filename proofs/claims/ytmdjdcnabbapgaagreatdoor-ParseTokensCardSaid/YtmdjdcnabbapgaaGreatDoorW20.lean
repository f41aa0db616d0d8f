/- Texts of this proof folded into one: RX15 R7 R8 R9 R10 KZ2 KZ3. -/
import Derived.Test.YtmdjdcnabbapgaaGreatDoorW15
import Derived.Test.YtmdjdcnabbapgaaGreatDoorW10
import Derived.Test.YtmdjdcnabbapgaaGreatDoorW7
import Derived.Test.YtmdjdcnabbapgaaGreatDoorW19
section
/- TREES, printed by kt.py out of z15.txt -/
open Go Go.Eng
open IntKind (wrap)
namespace Go.Proofs
set_option linter.unusedVariables false
set_option maxRecDepth 100000
@[irreducible] noncomputable def c2B (l:List (List AV)) (z d i i1 i2:Int) (l1 l2 l3 l4 l5 l6:List (List AV)) (i3 i4 i5 i6:Int):KT:=((((((((((((((kt5 b1r [.ptr 0 0] [[.slice 4 l .no,vI z,vI 0,vI 0,vI d]]).T.I i).I i1).I i2).R l1).R l2).R l3).R l4).R l5).R l6).I i3).I i4).I i5).I i6).T
@[irreducible] noncomputable def p1U (l:List (List AV)) (z d i i1 i2:Int) (l1 l2 l3 l4 l5 l6:List (List AV)) (i3 i4 i5 i6:Int):KT:=((((((((((((((kt5 a1k [.ptr 0 0,vI 2] [[.slice 4 l .no,vI z,vI 0,vI 0,vI d]]).F.T.I i).I i1).I i2).R l1).R l2).R l3).R l4).R l5).R l6).I i3).I i4).I i5).I i6).T.F.F.T
@[irreducible] noncomputable def m1e (l:List (List AV)) (z d i i1 i2:Int) (l1 l2 l3 l4 l5 l6:List (List AV)) (i3 i4 i5 i6 k o n:Int) (s1 s2 s3 s4 s5:Nat) (p a b c e:List (List AV)) (w1 w2 w3 w4 w5:Own) (m:List (List AV)) (z' x y d':Int):KT:=(p1U l z d i i1 i2 l1 l2 l3 l4 l5 l6 i3 i4 i5 i6).round Pg cfg0 rs0 kc5 (zkS 54 [(0,zkP),(1,vI 2),(4,.lp 4 0 0),(5,.lp 5 0 0),(6,.lp 6 0 0),(7,.lp 7 0 0)] [(4,0,zk10),(5,0,zk23 k o n s1 p w1 s2 a w2 s3 b w3 s4 c w4 s5 e w5),(6,0,zk14 h1k i1k),(7,0,[vI 3,vI 4])] [zk1 m z' x y d'] 1)
@[irreducible] noncomputable def p1V (l:List (List AV)) (z d i i1 i2:Int) (l1 l2 l3 l4 l5 l6:List (List AV)) (i3 i4 i5 i6:Int):KT:=((((((((((((((kt5 a1k [.ptr 0 0,vI 1] [[.slice 4 l .no,vI z,vI 0,vI 0,vI d]]).F.T.I i).I i1).I i2).R l1).R l2).R l3).R l4).R l5).R l6).I i3).I i4).I i5).I i6).T.F.T.T
@[irreducible] noncomputable def m1f (l:List (List AV)) (z d i i1 i2:Int) (l1 l2 l3 l4 l5 l6:List (List AV)) (i3 i4 i5 i6 k o n:Int) (s1 s2 s3 s4 s5:Nat) (p a b c e:List (List AV)) (w1 w2 w3 w4 w5:Own) (m:List (List AV)) (z' x y d':Int):KT:=(p1V l z d i i1 i2 l1 l2 l3 l4 l5 l6 i3 i4 i5 i6).round Pg cfg0 rs0 kc5 (zkS 54 [(0,zkP),(1,vI 1),(4,.lp 4 0 0),(5,.lp 5 0 0),(6,.lp 6 0 0),(7,.lp 7 0 0)] [(4,0,zk10),(5,0,zk23 k o n s1 p w1 s2 a w2 s3 b w3 s4 c w4 s5 e w5),(6,0,zk14 i1j i1i),(7,0,[vI 1,vI 2])] [zk1 m z' x y d'] 1)
@[irreducible] noncomputable def p1W (l:List (List AV)) (z d i i1 i2:Int) (l1 l2 l3 l4 l5 l6:List (List AV)) (i3 i4 i5 i6:Int):KT:=((((((((((((((kt5 a1k [.ptr 0 0,vI 0] [[.slice 4 l .no,vI z,vI 0,vI 0,vI d]]).F.T.I i).I i1).I i2).R l1).R l2).R l3).R l4).R l5).R l6).I i3).I i4).I i5).I i6).T.T.T
@[irreducible] noncomputable def m1g (l:List (List AV)) (z d i i1 i2:Int) (l1 l2 l3 l4 l5 l6:List (List AV)) (i3 i4 i5 i6 k o n:Int) (s1 s2 s3 s4 s5:Nat) (p a b c e:List (List AV)) (w1 w2 w3 w4 w5:Own) (m:List (List AV)) (z' x y d':Int):KT:=(p1W l z d i i1 i2 l1 l2 l3 l4 l5 l6 i3 i4 i5 i6).round Pg cfg0 rs0 kc5 (zkS 54 [(0,zkP),(1,vI 0),(4,.lp 4 0 0),(5,.lp 5 0 0),(6,.lp 6 0 0),(7,.lp 7 0 0)] [(4,0,zk10),(5,0,zk23 k o n s1 p w1 s2 a w2 s3 b w3 s4 c w4 s5 e w5),(6,0,zk14 i1A i1z),(7,0,[vI 5,vI 6])] [zk1 m z' x y d'] 1)
@[irreducible] noncomputable def j1o (l:List (List AV)) (z d i i1 i2:Int) (l1 l2 l3 l4 l5 l6:List (List AV)) (i3 i4 i5 i6:Int) (l7:List (List AV)) (i7 i8 i9 i10:Int) (bb:Bool) (l8:List (List AV)) (i11 i12 i13 i14:Int):KT:=(((((((((((((((((((((((((kt5 a1T [.ptr 0 0] [[.slice 4 l .no,vI z,vI 0,vI 0,vI d]]).T.I i).I i1).I i2).R l1).R l2).R l3).R l4).R l5).R l6).I i3).I i4).I i5).I i6).T.T.R l7).I i7).I i8).I i9).I i10).T.B bb).R l8).I i11).I i12).I i13).I i14).T
@[irreducible] noncomputable def s1B (l:List (List AV)) (z d:Int) (b b1:Bool) (l1:List (List AV)) (i i1 i2 i3:Int):KT:=((((((((kt5 a1v [.ptr 0 0] [[.slice 4 l .no,vI z,vI 0,vI 0,vI d]]).T.B b).T.F.B b1).R l1).I i).I i1).I i2).I i3).T.T
theorem r1G (l z d i i1 i2 l1 l2 l3 l4 l5 l6 i3 i4 i5 i6 k o n) (s1 s2 s3 s4 s5:Nat) (p a b c e) (w1 w2 w3 w4 w5:Own) (m z' x y d'):(KT.round Pg cfg0 rs0 kc5 (c2B l z d i i1 i2 l1 l2 l3 l4 l5 l6 i3 i4 i5 i6) (zkS 42 [(0,zkP),(2,.lp 2 0 0),(3,.lp 3 0 0)] [(2,0,zk10),(3,0,zk23 k o n s1 p w1 s2 a w2 s3 b w3 s4 c w4 s5 e w5)] [zk1 m z' x y d'] 1)).prune (PH.of 8101812374955522727758886754116340781)=
 zk5 a1l [zkP,vI 4] [zk1 m z' x y d'] (fun b1=>.branch b1 (zk26 a1v [zkP] [zk1 m z' x y d'] (fun i7 i8 i9 l7 l8 l9 l10 l11 l12 i10 i11 i12 i13=>.done (zkS 42 [(0,zkP),(2,.lp 2 0 0),(3,.lp 3 0 0)] [(2,0,zk10),(3,0,zk59 k o n (a1D Pg (y_s_string:TypeId) (AV.slice s1 p w1).dis.dis) (a1D Pg (y_s_api_Pat:TypeId) (AV.slice s2 a w2).dis.dis) (a1D Pg (y_s_api_Exp:TypeId) (AV.slice s3 b w3).dis.dis) (a1D Pg (y_s_api_Dec:TypeId) (AV.slice s4 c w4).dis.dis) (a1D Pg (y_s_api_Ty:TypeId) (AV.slice s5 e w5).dis.dis) i7 i8 i9 l7 l8 l9 l10 l11)] [zk1 l12 i10 i11 i12 i13] 1)) zk27) (zk5 a1l [zkP,vI 1] [zk1 m z' x y d'] (fun b2=>.branch b2 (zk26 a1v [zkP] [zk1 m z' x y d'] (fun i7 i8 i9 l7 l8 l9 l10 l11 l12 i10 i11 i12 i13=>.done (zkS 42 [(0,zkP),(2,.lp 2 0 0),(3,.lp 3 0 0)] [(2,0,zk10),(3,0,zk59 k o n (a1D Pg (y_s_string:TypeId) (AV.slice s1 p w1).dis.dis) (a1D Pg (y_s_api_Pat:TypeId) (AV.slice s2 a w2).dis.dis) (a1D Pg (y_s_api_Exp:TypeId) (AV.slice s3 b w3).dis.dis) (a1D Pg (y_s_api_Dec:TypeId) (AV.slice s4 c w4).dis.dis) (a1D Pg (y_s_api_Ty:TypeId) (AV.slice s5 e w5).dis.dis) i7 i8 i9 l7 l8 l9 l10 l11)] [zk1 l12 i10 i11 i12 i13] 1)) zk27) (zk5 a1l [zkP,vI 2] [zk1 m z' x y d'] (fun b3=>.branch b3 (zk26 a1v [zkP] [zk1 m z' x y d'] (fun i7 i8 i9 l7 l8 l9 l10 l11 l12 i10 i11 i12 i13=>.done (zkS 42 [(0,zkP),(2,.lp 2 0 0),(3,.lp 3 0 0)] [(2,0,zk10),(3,0,zk59 k o n (a1D Pg (y_s_string:TypeId) (AV.slice s1 p w1).dis.dis) (a1D Pg (y_s_api_Pat:TypeId) (AV.slice s2 a w2).dis.dis) (a1D Pg (y_s_api_Exp:TypeId) (AV.slice s3 b w3).dis.dis) (a1D Pg (y_s_api_Dec:TypeId) (AV.slice s4 c w4).dis.dis) (a1D Pg (y_s_api_Ty:TypeId) (AV.slice s5 e w5).dis.dis) i7 i8 i9 l7 l8 l9 l10 l11)] [zk1 l12 i10 i11 i12 i13] 1)) zk27) (zk5 a1r [zkP,vS z1b] [zk1 m z' x y d'] (fun b4=>.branch b4 (zk26 a1v [zkP] [zk1 m z' x y d'] (fun i7 i8 i9 l7 l8 l9 l10 l11 l12 i10 i11 i12 i13=>.done (zkS 42 [(0,zkP),(2,.lp 2 0 0),(3,.lp 3 0 0)] [(2,0,zk10),(3,0,zk59 k o n (a1D Pg (y_s_string:TypeId) (AV.slice s1 p w1).dis.dis) (a1D Pg (y_s_api_Pat:TypeId) (AV.slice s2 a w2).dis.dis) (a1D Pg (y_s_api_Exp:TypeId) (AV.slice s3 b w3).dis.dis) (a1D Pg (y_s_api_Dec:TypeId) (AV.slice s4 c w4).dis.dis) (a1D Pg (y_s_api_Ty:TypeId) (AV.slice s5 e w5).dis.dis) i7 i8 i9 l7 l8 l9 l10 l11)] [zk1 l12 i10 i11 i12 i13] 1)) zk27) (zk5 a1r [zkP,vS z1d] [zk1 m z' x y d'] (fun b5=>.branch b5 (zk26 a1v [zkP] [zk1 m z' x y d'] (fun i7 i8 i9 l7 l8 l9 l10 l11 l12 i10 i11 i12 i13=>.done (zkS 42 [(0,zkP),(2,.lp 2 0 0),(3,.lp 3 0 0)] [(2,0,zk10),(3,0,zk59 k o n (a1D Pg (y_s_string:TypeId) (AV.slice s1 p w1).dis.dis) (a1D Pg (y_s_api_Pat:TypeId) (AV.slice s2 a w2).dis.dis) (a1D Pg (y_s_api_Exp:TypeId) (AV.slice s3 b w3).dis.dis) (a1D Pg (y_s_api_Dec:TypeId) (AV.slice s4 c w4).dis.dis) (a1D Pg (y_s_api_Ty:TypeId) (AV.slice s5 e w5).dis.dis) i7 i8 i9 l7 l8 l9 l10 l11)] [zk1 l12 i10 i11 i12 i13] 1)) zk27) (zk5 a1r [zkP,vS b2S] [zk1 m z' x y d'] (fun b6=>.branch b6 (zk26 a1v [zkP] [zk1 m z' x y d'] (fun i7 i8 i9 l7 l8 l9 l10 l11 l12 i10 i11 i12 i13=>.done (zkS 42 [(0,zkP),(2,.lp 2 0 0),(3,.lp 3 0 0)] [(2,0,zk10),(3,0,zk59 k o n (a1D Pg (y_s_string:TypeId) (AV.slice s1 p w1).dis.dis) (a1D Pg (y_s_api_Pat:TypeId) (AV.slice s2 a w2).dis.dis) (a1D Pg (y_s_api_Exp:TypeId) (AV.slice s3 b w3).dis.dis) (a1D Pg (y_s_api_Dec:TypeId) (AV.slice s4 c w4).dis.dis) (a1D Pg (y_s_api_Ty:TypeId) (AV.slice s5 e w5).dis.dis) i7 i8 i9 l7 l8 l9 l10 l11)] [zk1 l12 i10 i11 i12 i13] 1)) zk27) (zk5 a1r [zkP,vS e2M] [zk1 m z' x y d'] (fun b7=>.branch b7 (zk26 a1v [zkP] [zk1 m z' x y d'] (fun i7 i8 i9 l7 l8 l9 l10 l11 l12 i10 i11 i12 i13=>.done (zkS 42 [(0,zkP),(2,.lp 2 0 0),(3,.lp 3 0 0)] [(2,0,zk10),(3,0,zk59 k o n (a1D Pg (y_s_string:TypeId) (AV.slice s1 p w1).dis.dis) (a1D Pg (y_s_api_Pat:TypeId) (AV.slice s2 a w2).dis.dis) (a1D Pg (y_s_api_Exp:TypeId) (AV.slice s3 b w3).dis.dis) (a1D Pg (y_s_api_Dec:TypeId) (AV.slice s4 c w4).dis.dis) (a1D Pg (y_s_api_Ty:TypeId) (AV.slice s5 e w5).dis.dis) i7 i8 i9 l7 l8 l9 l10 l11)] [zk1 l12 i10 i11 i12 i13] 1)) zk27) (zk5 a1r [zkP,vS zkb8] [zk1 m z' x y d'] (fun b8=>.branch b8 (zk26 a1v [zkP] [zk1 m z' x y d'] (fun i7 i8 i9 l7 l8 l9 l10 l11 l12 i10 i11 i12 i13=>.done (zkS 42 [(0,zkP),(2,.lp 2 0 0),(3,.lp 3 0 0)] [(2,0,zk10),(3,0,zk59 k o n (a1D Pg (y_s_string:TypeId) (AV.slice s1 p w1).dis.dis) (a1D Pg (y_s_api_Pat:TypeId) (AV.slice s2 a w2).dis.dis) (a1D Pg (y_s_api_Exp:TypeId) (AV.slice s3 b w3).dis.dis) (a1D Pg (y_s_api_Dec:TypeId) (AV.slice s4 c w4).dis.dis) (a1D Pg (y_s_api_Ty:TypeId) (AV.slice s5 e w5).dis.dis) i7 i8 i9 l7 l8 l9 l10 l11)] [zk1 l12 i10 i11 i12 i13] 1)) zk27) (.out (.ret (zkR (.agg (zk40 k o n (a1D Pg (y_s_string:TypeId) (AV.slice s1 p w1).dis.dis.dis) (a1D Pg (y_s_api_Pat:TypeId) (AV.slice s2 a w2).dis.dis.dis) (a1D Pg (y_s_api_Exp:TypeId) (AV.slice s3 b w3).dis.dis.dis) (a1D Pg (y_s_api_Dec:TypeId) (AV.slice s4 c w4).dis.dis.dis) (a1D Pg (y_s_api_Ty:TypeId) (AV.slice s5 e w5).dis.dis.dis))) [zk1 m z' x y d'])))))))))))))))))):=by kernel_rfl
@[irreducible] noncomputable def s1C (l:List (List AV)) (z d i i1 i2:Int) (l1 l2 l3 l4 l5 l6:List (List AV)) (i3 i4 i5 i6 k o n:Int) (s1 s2 s3 s4 s5:Nat) (p a b c e:List (List AV)) (w1 w2 w3 w4 w5:Own) (m:List (List AV)) (z' x y d':Int):KT:=KT.round Pg cfg0 rs0 kc5 (p1U l z d i i1 i2 l1 l2 l3 l4 l5 l6 i3 i4 i5 i6) (zkS 54 [(0,zkP),(1,vI 2),(4,.lp 4 0 0),(5,.lp 5 0 0),(6,.lp 6 0 0),(7,.lp 7 0 0)] [(4,0,zk10),(5,0,zk23 k o n s1 p w1 s2 a w2 s3 b w3 s4 c w4 s5 e w5),(6,0,zk14 h1k i1k),(7,0,[vI 3,vI 4])] [zk1 m z' x y d'] 1)
theorem p1X (l z d i i1 i2 l1 l2 l3 l4 l5 l6 i3 i4 i5 i6 k o n) (s1 s2 s3 s4 s5:Nat) (p a b c e) (w1 w2 w3 w4 w5:Own) (m z' x y d'):(KT.round Pg cfg0 rs0 kc5 (p1U l z d i i1 i2 l1 l2 l3 l4 l5 l6 i3 i4 i5 i6) (zkS 54 [(0,zkP),(1,vI 2),(4,.lp 4 0 0),(5,.lp 5 0 0),(6,.lp 6 0 0),(7,.lp 7 0 0)] [(4,0,zk10),(5,0,zk23 k o n s1 p w1 s2 a w2 s3 b w3 s4 c w4 s5 e w5),(6,0,zk14 h1k i1k),(7,0,[vI 3,vI 4])] [zk1 m z' x y d'] 1)).prune (PH.of 0)=
 s1C l z d i i1 i2 l1 l2 l3 l4 l5 l6 i3 i4 i5 i6 k o n s1 s2 s3 s4 s5 p a b c e w1 w2 w3 w4 w5 m z' x y d':=by kernel_rfl
theorem n1D (l z d i i1 i2 l1 l2 l3 l4 l5 l6 i3 i4 i5 i6 k o n) (s1 s2 s3 s4 s5:Nat) (p a b c e) (w1 w2 w3 w4 w5:Own) (m z' x y d' m2 z2 x2 y2 d2):(KT.round Pg cfg0 rs0 kc5 (m1e l z d i i1 i2 l1 l2 l3 l4 l5 l6 i3 i4 i5 i6 k o n s1 s2 s3 s4 s5 p a b c e w1 w2 w3 w4 w5 m z' x y d') (zkS 54 [(0,zkP),(1,vI 2),(4,.lp 4 0 0),(5,.lp 5 0 0),(6,.lp 6 0 0),(7,.lp 7 0 0),(8,vI 0),(24,.agg (zk14 h1k i1k)),(25,vI 0)] [(4,0,zk10),(5,0,zk23 k o n s1 p w1 s2 a w2 s3 b w3 s4 c w4 s5 e w5),(6,0,zk14 h1k i1k),(7,0,[vI 3,vI 4])] [zk1 m2 z2 x2 y2 d2] 1)).prune (PH.of 347)=
 zk20 a1g [zkP,vS h1k] [zk1 m2 z2 x2 y2 d2] (fun b1 l7 i7 i8 i9 i10=>.branch b1 (.done (zkS 54 [(0,zkP),(1,vI 2),(4,.lp 4 0 0),(5,.lp 5 0 0),(6,.lp 6 0 0),(7,.lp 7 0 0),(8,vI 3),(24,.agg (zk14 h1k i1k)),(25,vI (wrap .i64 (0+1)))] [(4,0,zk10),(5,0,zk23 k o n s1 p w1 s2 a w2 s3 b w3 s4 c w4 s5 e w5),(6,0,zk14 h1k i1k),(7,0,[vI 3,vI 4])] [zk1 l7 i7 i8 i9 i10] 1)) (.done (zkS 54 [(0,zkP),(1,vI 2),(4,.lp 4 0 0),(5,.lp 5 0 0),(6,.lp 6 0 0),(7,.lp 7 0 0),(8,vI 0),(24,.agg (zk14 h1k i1k)),(25,vI (wrap .i64 (0+1)))] [(4,0,zk10),(5,0,zk23 k o n s1 p w1 s2 a w2 s3 b w3 s4 c w4 s5 e w5),(6,0,zk14 h1k i1k),(7,0,[vI 3,vI 4])] [zk1 l7 i7 i8 i9 i10] 1))):=by kernel_rfl
theorem n1E (l z d i i1 i2 l1 l2 l3 l4 l5 l6 i3 i4 i5 i6 k o n) (s1 s2 s3 s4 s5:Nat) (p a b c e) (w1 w2 w3 w4 w5:Own) (m z' x y d' m2 z2 x2 y2 d2 op):(KT.round Pg cfg0 rs0 kc5 (m1e l z d i i1 i2 l1 l2 l3 l4 l5 l6 i3 i4 i5 i6 k o n s1 s2 s3 s4 s5 p a b c e w1 w2 w3 w4 w5 m z' x y d') (zkS 54 [(0,zkP),(1,vI 2),(4,.lp 4 0 0),(5,.lp 5 0 0),(6,.lp 6 0 0),(7,.lp 7 0 0),(8,vI op),(24,.agg (zk14 h1k i1k)),(25,vI 1)] [(4,0,zk10),(5,0,zk23 k o n s1 p w1 s2 a w2 s3 b w3 s4 c w4 s5 e w5),(6,0,zk14 h1k i1k),(7,0,[vI 3,vI 4])] [zk1 m2 z2 x2 y2 d2] 1)).prune (PH.of 363)=
 .branch (op==0) (zk20 a1g [zkP,vS i1k] [zk1 m2 z2 x2 y2 d2] (fun b1 l7 i7 i8 i9 i10=>.branch b1 (.done (zkS 54 [(0,zkP),(1,vI 2),(4,.lp 4 0 0),(5,.lp 5 0 0),(6,.lp 6 0 0),(7,.lp 7 0 0),(8,vI 4),(24,.agg (zk14 h1k i1k)),(25,vI (wrap .i64 (1+1)))] [(4,0,zk10),(5,0,zk23 k o n s1 p w1 s2 a w2 s3 b w3 s4 c w4 s5 e w5),(6,0,zk14 h1k i1k),(7,0,[vI 3,vI 4])] [zk1 l7 i7 i8 i9 i10] 1)) (.done (zkS 54 [(0,zkP),(1,vI 2),(4,.lp 4 0 0),(5,.lp 5 0 0),(6,.lp 6 0 0),(7,.lp 7 0 0),(8,vI op),(24,.agg (zk14 h1k i1k)),(25,vI (wrap .i64 (1+1)))] [(4,0,zk10),(5,0,zk23 k o n s1 p w1 s2 a w2 s3 b w3 s4 c w4 s5 e w5),(6,0,zk14 h1k i1k),(7,0,[vI 3,vI 4])] [zk1 l7 i7 i8 i9 i10] 1)))) (.done (zkS 54 [(0,zkP),(1,vI 2),(4,.lp 4 0 0),(5,.lp 5 0 0),(6,.lp 6 0 0),(7,.lp 7 0 0),(8,vI op),(24,.agg (zk14 h1k i1k)),(25,vI (wrap .i64 (1+1)))] [(4,0,zk10),(5,0,zk23 k o n s1 p w1 s2 a w2 s3 b w3 s4 c w4 s5 e w5),(6,0,zk14 h1k i1k),(7,0,[vI 3,vI 4])] [zk1 m2 z2 x2 y2 d2] 1)):=by kernel_rfl
theorem n1F (l z d i i1 i2 l1 l2 l3 l4 l5 l6 i3 i4 i5 i6 k o n) (s1 s2 s3 s4 s5:Nat) (p a b c e) (w1 w2 w3 w4 w5:Own) (m z' x y d' m2 z2 x2 y2 d2 op):(KT.round Pg cfg0 rs0 kc5 (m1e l z d i i1 i2 l1 l2 l3 l4 l5 l6 i3 i4 i5 i6 k o n s1 s2 s3 s4 s5 p a b c e w1 w2 w3 w4 w5 m z' x y d') (zkS 54 [(0,zkP),(1,vI 2),(4,.lp 4 0 0),(5,.lp 5 0 0),(6,.lp 6 0 0),(7,.lp 7 0 0),(8,vI op),(24,.agg (zk14 h1k i1k)),(25,vI 2)] [(4,0,zk10),(5,0,zk23 k o n s1 p w1 s2 a w2 s3 b w3 s4 c w4 s5 e w5),(6,0,zk14 h1k i1k),(7,0,[vI 3,vI 4])] [zk1 m2 z2 x2 y2 d2] 1)).prune (PH.of 12734892)=
 .out (.branch (op==0) (.out (.ret (zkR (.agg (zk40 k o n (a1D Pg (y_s_string:TypeId) (AV.slice s1 p w1).dis.dis.dis) (a1D Pg (y_s_api_Pat:TypeId) (AV.slice s2 a w2).dis.dis.dis) (a1D Pg (y_s_api_Exp:TypeId) (AV.slice s3 b w3).dis.dis.dis) (a1D Pg (y_s_api_Dec:TypeId) (AV.slice s4 c w4).dis.dis.dis) (a1D Pg (y_s_api_Ty:TypeId) (AV.slice s5 e w5).dis.dis.dis))) [zk1 m2 z2 x2 y2 d2]))) (zk26 a1k [zkP,vI (wrap .i64 (2+1))] [zk1 m2 z2 x2 y2 d2] (fun i7 i8 i9 l7 l8 l9 l10 l11 l12 i10 i11 i12 i13=>.done (zkS 54 [(0,zkP),(1,vI 2),(4,.lp 4 0 0),(5,.lp 5 0 0),(6,.lp 6 0 0),(7,.lp 7 0 0)] [(4,0,zk10),(5,0,[vI 13,vI op,vI 0,zkE,zkE,.slice 8 [zk40 k o n (a1D Pg (y_s_string:TypeId) (AV.slice s1 p w1).dis.dis) (a1D Pg (y_s_api_Pat:TypeId) (AV.slice s2 a w2).dis.dis) (a1D Pg (y_s_api_Exp:TypeId) (AV.slice s3 b w3).dis.dis) (a1D Pg (y_s_api_Dec:TypeId) (AV.slice s4 c w4).dis.dis) (a1D Pg (y_s_api_Ty:TypeId) (AV.slice s5 e w5).dis.dis),zk7 i7 i8 i9 l7 l8 l9 l10 l11] .full,zkE,zkE]),(6,0,zk14 h1k i1k),(7,0,[vI 3,vI 4])] [zk1 l12 i10 i11 i12 i13] 1)) zk27)):=by kernel_rfl
@[irreducible] noncomputable def s1D (l:List (List AV)) (z d i i1 i2:Int) (l1 l2 l3 l4 l5 l6:List (List AV)) (i3 i4 i5 i6 k o n:Int) (s1 s2 s3 s4 s5:Nat) (p a b c e:List (List AV)) (w1 w2 w3 w4 w5:Own) (m:List (List AV)) (z' x y d':Int):KT:=KT.round Pg cfg0 rs0 kc5 (p1V l z d i i1 i2 l1 l2 l3 l4 l5 l6 i3 i4 i5 i6) (zkS 54 [(0,zkP),(1,vI 1),(4,.lp 4 0 0),(5,.lp 5 0 0),(6,.lp 6 0 0),(7,.lp 7 0 0)] [(4,0,zk10),(5,0,zk23 k o n s1 p w1 s2 a w2 s3 b w3 s4 c w4 s5 e w5),(6,0,zk14 i1j i1i),(7,0,[vI 1,vI 2])] [zk1 m z' x y d'] 1)
theorem p1Y (l z d i i1 i2 l1 l2 l3 l4 l5 l6 i3 i4 i5 i6 k o n) (s1 s2 s3 s4 s5:Nat) (p a b c e) (w1 w2 w3 w4 w5:Own) (m z' x y d'):(KT.round Pg cfg0 rs0 kc5 (p1V l z d i i1 i2 l1 l2 l3 l4 l5 l6 i3 i4 i5 i6) (zkS 54 [(0,zkP),(1,vI 1),(4,.lp 4 0 0),(5,.lp 5 0 0),(6,.lp 6 0 0),(7,.lp 7 0 0)] [(4,0,zk10),(5,0,zk23 k o n s1 p w1 s2 a w2 s3 b w3 s4 c w4 s5 e w5),(6,0,zk14 i1j i1i),(7,0,[vI 1,vI 2])] [zk1 m z' x y d'] 1)).prune (PH.of 0)=
 s1D l z d i i1 i2 l1 l2 l3 l4 l5 l6 i3 i4 i5 i6 k o n s1 s2 s3 s4 s5 p a b c e w1 w2 w3 w4 w5 m z' x y d':=by kernel_rfl
theorem n1G (l z d i i1 i2 l1 l2 l3 l4 l5 l6 i3 i4 i5 i6 k o n) (s1 s2 s3 s4 s5:Nat) (p a b c e) (w1 w2 w3 w4 w5:Own) (m z' x y d' m2 z2 x2 y2 d2):(KT.round Pg cfg0 rs0 kc5 (m1f l z d i i1 i2 l1 l2 l3 l4 l5 l6 i3 i4 i5 i6 k o n s1 s2 s3 s4 s5 p a b c e w1 w2 w3 w4 w5 m z' x y d') (zkS 54 [(0,zkP),(1,vI 1),(4,.lp 4 0 0),(5,.lp 5 0 0),(6,.lp 6 0 0),(7,.lp 7 0 0),(8,vI 0),(24,.agg (zk14 i1j i1i)),(25,vI 0)] [(4,0,zk10),(5,0,zk23 k o n s1 p w1 s2 a w2 s3 b w3 s4 c w4 s5 e w5),(6,0,zk14 i1j i1i),(7,0,[vI 1,vI 2])] [zk1 m2 z2 x2 y2 d2] 1)).prune (PH.of 347)=
 zk20 a1g [zkP,vS i1j] [zk1 m2 z2 x2 y2 d2] (fun b1 l7 i7 i8 i9 i10=>.branch b1 (.done (zkS 54 [(0,zkP),(1,vI 1),(4,.lp 4 0 0),(5,.lp 5 0 0),(6,.lp 6 0 0),(7,.lp 7 0 0),(8,vI 1),(24,.agg (zk14 i1j i1i)),(25,vI (wrap .i64 (0+1)))] [(4,0,zk10),(5,0,zk23 k o n s1 p w1 s2 a w2 s3 b w3 s4 c w4 s5 e w5),(6,0,zk14 i1j i1i),(7,0,[vI 1,vI 2])] [zk1 l7 i7 i8 i9 i10] 1)) (.done (zkS 54 [(0,zkP),(1,vI 1),(4,.lp 4 0 0),(5,.lp 5 0 0),(6,.lp 6 0 0),(7,.lp 7 0 0),(8,vI 0),(24,.agg (zk14 i1j i1i)),(25,vI (wrap .i64 (0+1)))] [(4,0,zk10),(5,0,zk23 k o n s1 p w1 s2 a w2 s3 b w3 s4 c w4 s5 e w5),(6,0,zk14 i1j i1i),(7,0,[vI 1,vI 2])] [zk1 l7 i7 i8 i9 i10] 1))):=by kernel_rfl
theorem n1H (l z d i i1 i2 l1 l2 l3 l4 l5 l6 i3 i4 i5 i6 k o n) (s1 s2 s3 s4 s5:Nat) (p a b c e) (w1 w2 w3 w4 w5:Own) (m z' x y d' m2 z2 x2 y2 d2 op):(KT.round Pg cfg0 rs0 kc5 (m1f l z d i i1 i2 l1 l2 l3 l4 l5 l6 i3 i4 i5 i6 k o n s1 s2 s3 s4 s5 p a b c e w1 w2 w3 w4 w5 m z' x y d') (zkS 54 [(0,zkP),(1,vI 1),(4,.lp 4 0 0),(5,.lp 5 0 0),(6,.lp 6 0 0),(7,.lp 7 0 0),(8,vI op),(24,.agg (zk14 i1j i1i)),(25,vI 1)] [(4,0,zk10),(5,0,zk23 k o n s1 p w1 s2 a w2 s3 b w3 s4 c w4 s5 e w5),(6,0,zk14 i1j i1i),(7,0,[vI 1,vI 2])] [zk1 m2 z2 x2 y2 d2] 1)).prune (PH.of 363)=
 .branch (op==0) (zk20 a1g [zkP,vS i1i] [zk1 m2 z2 x2 y2 d2] (fun b1 l7 i7 i8 i9 i10=>.branch b1 (.done (zkS 54 [(0,zkP),(1,vI 1),(4,.lp 4 0 0),(5,.lp 5 0 0),(6,.lp 6 0 0),(7,.lp 7 0 0),(8,vI 2),(24,.agg (zk14 i1j i1i)),(25,vI (wrap .i64 (1+1)))] [(4,0,zk10),(5,0,zk23 k o n s1 p w1 s2 a w2 s3 b w3 s4 c w4 s5 e w5),(6,0,zk14 i1j i1i),(7,0,[vI 1,vI 2])] [zk1 l7 i7 i8 i9 i10] 1)) (.done (zkS 54 [(0,zkP),(1,vI 1),(4,.lp 4 0 0),(5,.lp 5 0 0),(6,.lp 6 0 0),(7,.lp 7 0 0),(8,vI op),(24,.agg (zk14 i1j i1i)),(25,vI (wrap .i64 (1+1)))] [(4,0,zk10),(5,0,zk23 k o n s1 p w1 s2 a w2 s3 b w3 s4 c w4 s5 e w5),(6,0,zk14 i1j i1i),(7,0,[vI 1,vI 2])] [zk1 l7 i7 i8 i9 i10] 1)))) (.done (zkS 54 [(0,zkP),(1,vI 1),(4,.lp 4 0 0),(5,.lp 5 0 0),(6,.lp 6 0 0),(7,.lp 7 0 0),(8,vI op),(24,.agg (zk14 i1j i1i)),(25,vI (wrap .i64 (1+1)))] [(4,0,zk10),(5,0,zk23 k o n s1 p w1 s2 a w2 s3 b w3 s4 c w4 s5 e w5),(6,0,zk14 i1j i1i),(7,0,[vI 1,vI 2])] [zk1 m2 z2 x2 y2 d2] 1)):=by kernel_rfl
theorem n1I (l z d i i1 i2 l1 l2 l3 l4 l5 l6 i3 i4 i5 i6 k o n) (s1 s2 s3 s4 s5:Nat) (p a b c e) (w1 w2 w3 w4 w5:Own) (m z' x y d' m2 z2 x2 y2 d2 op):(KT.round Pg cfg0 rs0 kc5 (m1f l z d i i1 i2 l1 l2 l3 l4 l5 l6 i3 i4 i5 i6 k o n s1 s2 s3 s4 s5 p a b c e w1 w2 w3 w4 w5 m z' x y d') (zkS 54 [(0,zkP),(1,vI 1),(4,.lp 4 0 0),(5,.lp 5 0 0),(6,.lp 6 0 0),(7,.lp 7 0 0),(8,vI op),(24,.agg (zk14 i1j i1i)),(25,vI 2)] [(4,0,zk10),(5,0,zk23 k o n s1 p w1 s2 a w2 s3 b w3 s4 c w4 s5 e w5),(6,0,zk14 i1j i1i),(7,0,[vI 1,vI 2])] [zk1 m2 z2 x2 y2 d2] 1)).prune (PH.of 12734892)=
 .out (.branch (op==0) (.out (.ret (zkR (.agg (zk40 k o n (a1D Pg (y_s_string:TypeId) (AV.slice s1 p w1).dis.dis.dis) (a1D Pg (y_s_api_Pat:TypeId) (AV.slice s2 a w2).dis.dis.dis) (a1D Pg (y_s_api_Exp:TypeId) (AV.slice s3 b w3).dis.dis.dis) (a1D Pg (y_s_api_Dec:TypeId) (AV.slice s4 c w4).dis.dis.dis) (a1D Pg (y_s_api_Ty:TypeId) (AV.slice s5 e w5).dis.dis.dis))) [zk1 m2 z2 x2 y2 d2]))) (zk26 a1k [zkP,vI (wrap .i64 (1+1))] [zk1 m2 z2 x2 y2 d2] (fun i7 i8 i9 l7 l8 l9 l10 l11 l12 i10 i11 i12 i13=>.done (zkS 54 [(0,zkP),(1,vI 1),(4,.lp 4 0 0),(5,.lp 5 0 0),(6,.lp 6 0 0),(7,.lp 7 0 0)] [(4,0,zk10),(5,0,[vI 13,vI op,vI 0,zkE,zkE,.slice 8 [zk40 k o n (a1D Pg (y_s_string:TypeId) (AV.slice s1 p w1).dis.dis) (a1D Pg (y_s_api_Pat:TypeId) (AV.slice s2 a w2).dis.dis) (a1D Pg (y_s_api_Exp:TypeId) (AV.slice s3 b w3).dis.dis) (a1D Pg (y_s_api_Dec:TypeId) (AV.slice s4 c w4).dis.dis) (a1D Pg (y_s_api_Ty:TypeId) (AV.slice s5 e w5).dis.dis),zk7 i7 i8 i9 l7 l8 l9 l10 l11] .full,zkE,zkE]),(6,0,zk14 i1j i1i),(7,0,[vI 1,vI 2])] [zk1 l12 i10 i11 i12 i13] 1)) zk27)):=by kernel_rfl
@[irreducible] noncomputable def s1E (l:List (List AV)) (z d i i1 i2:Int) (l1 l2 l3 l4 l5 l6:List (List AV)) (i3 i4 i5 i6 k o n:Int) (s1 s2 s3 s4 s5:Nat) (p a b c e:List (List AV)) (w1 w2 w3 w4 w5:Own) (m:List (List AV)) (z' x y d':Int):KT:=KT.round Pg cfg0 rs0 kc5 (p1W l z d i i1 i2 l1 l2 l3 l4 l5 l6 i3 i4 i5 i6) (zkS 54 [(0,zkP),(1,vI 0),(4,.lp 4 0 0),(5,.lp 5 0 0),(6,.lp 6 0 0),(7,.lp 7 0 0)] [(4,0,zk10),(5,0,zk23 k o n s1 p w1 s2 a w2 s3 b w3 s4 c w4 s5 e w5),(6,0,zk14 i1A i1z),(7,0,[vI 5,vI 6])] [zk1 m z' x y d'] 1)
theorem w1x (l z d i i1 i2 l1 l2 l3 l4 l5 l6 i3 i4 i5 i6 k o n) (s1 s2 s3 s4 s5:Nat) (p a b c e) (w1 w2 w3 w4 w5:Own) (m z' x y d'):(KT.round Pg cfg0 rs0 kc5 (p1W l z d i i1 i2 l1 l2 l3 l4 l5 l6 i3 i4 i5 i6) (zkS 54 [(0,zkP),(1,vI 0),(4,.lp 4 0 0),(5,.lp 5 0 0),(6,.lp 6 0 0),(7,.lp 7 0 0)] [(4,0,zk10),(5,0,zk23 k o n s1 p w1 s2 a w2 s3 b w3 s4 c w4 s5 e w5),(6,0,zk14 i1A i1z),(7,0,[vI 5,vI 6])] [zk1 m z' x y d'] 1)).prune (PH.of 0)=
 s1E l z d i i1 i2 l1 l2 l3 l4 l5 l6 i3 i4 i5 i6 k o n s1 s2 s3 s4 s5 p a b c e w1 w2 w3 w4 w5 m z' x y d':=by kernel_rfl
theorem v1a (l z d i i1 i2 l1 l2 l3 l4 l5 l6 i3 i4 i5 i6 k o n) (s1 s2 s3 s4 s5:Nat) (p a b c e) (w1 w2 w3 w4 w5:Own) (m z' x y d' m2 z2 x2 y2 d2):(KT.round Pg cfg0 rs0 kc5 (m1g l z d i i1 i2 l1 l2 l3 l4 l5 l6 i3 i4 i5 i6 k o n s1 s2 s3 s4 s5 p a b c e w1 w2 w3 w4 w5 m z' x y d') (zkS 54 [(0,zkP),(1,vI 0),(4,.lp 4 0 0),(5,.lp 5 0 0),(6,.lp 6 0 0),(7,.lp 7 0 0),(8,vI 0),(24,.agg (zk14 i1A i1z)),(25,vI 0)] [(4,0,zk10),(5,0,zk23 k o n s1 p w1 s2 a w2 s3 b w3 s4 c w4 s5 e w5),(6,0,zk14 i1A i1z),(7,0,[vI 5,vI 6])] [zk1 m2 z2 x2 y2 d2] 1)).prune (PH.of 347)=
 zk20 a1g [zkP,vS i1A] [zk1 m2 z2 x2 y2 d2] (fun b1 l7 i7 i8 i9 i10=>.branch b1 (.done (zkS 54 [(0,zkP),(1,vI 0),(4,.lp 4 0 0),(5,.lp 5 0 0),(6,.lp 6 0 0),(7,.lp 7 0 0),(8,vI 5),(24,.agg (zk14 i1A i1z)),(25,vI (wrap .i64 (0+1)))] [(4,0,zk10),(5,0,zk23 k o n s1 p w1 s2 a w2 s3 b w3 s4 c w4 s5 e w5),(6,0,zk14 i1A i1z),(7,0,[vI 5,vI 6])] [zk1 l7 i7 i8 i9 i10] 1)) (.done (zkS 54 [(0,zkP),(1,vI 0),(4,.lp 4 0 0),(5,.lp 5 0 0),(6,.lp 6 0 0),(7,.lp 7 0 0),(8,vI 0),(24,.agg (zk14 i1A i1z)),(25,vI (wrap .i64 (0+1)))] [(4,0,zk10),(5,0,zk23 k o n s1 p w1 s2 a w2 s3 b w3 s4 c w4 s5 e w5),(6,0,zk14 i1A i1z),(7,0,[vI 5,vI 6])] [zk1 l7 i7 i8 i9 i10] 1))):=by kernel_rfl
theorem v1b (l z d i i1 i2 l1 l2 l3 l4 l5 l6 i3 i4 i5 i6 k o n) (s1 s2 s3 s4 s5:Nat) (p a b c e) (w1 w2 w3 w4 w5:Own) (m z' x y d' m2 z2 x2 y2 d2 op):(KT.round Pg cfg0 rs0 kc5 (m1g l z d i i1 i2 l1 l2 l3 l4 l5 l6 i3 i4 i5 i6 k o n s1 s2 s3 s4 s5 p a b c e w1 w2 w3 w4 w5 m z' x y d') (zkS 54 [(0,zkP),(1,vI 0),(4,.lp 4 0 0),(5,.lp 5 0 0),(6,.lp 6 0 0),(7,.lp 7 0 0),(8,vI op),(24,.agg (zk14 i1A i1z)),(25,vI 1)] [(4,0,zk10),(5,0,zk23 k o n s1 p w1 s2 a w2 s3 b w3 s4 c w4 s5 e w5),(6,0,zk14 i1A i1z),(7,0,[vI 5,vI 6])] [zk1 m2 z2 x2 y2 d2] 1)).prune (PH.of 363)=
 .branch (op==0) (zk20 a1g [zkP,vS i1z] [zk1 m2 z2 x2 y2 d2] (fun b1 l7 i7 i8 i9 i10=>.branch b1 (.done (zkS 54 [(0,zkP),(1,vI 0),(4,.lp 4 0 0),(5,.lp 5 0 0),(6,.lp 6 0 0),(7,.lp 7 0 0),(8,vI 6),(24,.agg (zk14 i1A i1z)),(25,vI (wrap .i64 (1+1)))] [(4,0,zk10),(5,0,zk23 k o n s1 p w1 s2 a w2 s3 b w3 s4 c w4 s5 e w5),(6,0,zk14 i1A i1z),(7,0,[vI 5,vI 6])] [zk1 l7 i7 i8 i9 i10] 1)) (.done (zkS 54 [(0,zkP),(1,vI 0),(4,.lp 4 0 0),(5,.lp 5 0 0),(6,.lp 6 0 0),(7,.lp 7 0 0),(8,vI op),(24,.agg (zk14 i1A i1z)),(25,vI (wrap .i64 (1+1)))] [(4,0,zk10),(5,0,zk23 k o n s1 p w1 s2 a w2 s3 b w3 s4 c w4 s5 e w5),(6,0,zk14 i1A i1z),(7,0,[vI 5,vI 6])] [zk1 l7 i7 i8 i9 i10] 1)))) (.done (zkS 54 [(0,zkP),(1,vI 0),(4,.lp 4 0 0),(5,.lp 5 0 0),(6,.lp 6 0 0),(7,.lp 7 0 0),(8,vI op),(24,.agg (zk14 i1A i1z)),(25,vI (wrap .i64 (1+1)))] [(4,0,zk10),(5,0,zk23 k o n s1 p w1 s2 a w2 s3 b w3 s4 c w4 s5 e w5),(6,0,zk14 i1A i1z),(7,0,[vI 5,vI 6])] [zk1 m2 z2 x2 y2 d2] 1)):=by kernel_rfl
theorem v1c (l z d i i1 i2 l1 l2 l3 l4 l5 l6 i3 i4 i5 i6 k o n) (s1 s2 s3 s4 s5:Nat) (p a b c e) (w1 w2 w3 w4 w5:Own) (m z' x y d' m2 z2 x2 y2 d2 op):(KT.round Pg cfg0 rs0 kc5 (m1g l z d i i1 i2 l1 l2 l3 l4 l5 l6 i3 i4 i5 i6 k o n s1 s2 s3 s4 s5 p a b c e w1 w2 w3 w4 w5 m z' x y d') (zkS 54 [(0,zkP),(1,vI 0),(4,.lp 4 0 0),(5,.lp 5 0 0),(6,.lp 6 0 0),(7,.lp 7 0 0),(8,vI op),(24,.agg (zk14 i1A i1z)),(25,vI 2)] [(4,0,zk10),(5,0,zk23 k o n s1 p w1 s2 a w2 s3 b w3 s4 c w4 s5 e w5),(6,0,zk14 i1A i1z),(7,0,[vI 5,vI 6])] [zk1 m2 z2 x2 y2 d2] 1)).prune (PH.of 102355372)=
 .out (.branch (op==0) (.out (.ret (zkR (.agg (zk40 k o n (a1D Pg (y_s_string:TypeId) (AV.slice s1 p w1).dis.dis.dis) (a1D Pg (y_s_api_Pat:TypeId) (AV.slice s2 a w2).dis.dis.dis) (a1D Pg (y_s_api_Exp:TypeId) (AV.slice s3 b w3).dis.dis.dis) (a1D Pg (y_s_api_Dec:TypeId) (AV.slice s4 c w4).dis.dis.dis) (a1D Pg (y_s_api_Ty:TypeId) (AV.slice s5 e w5).dis.dis.dis))) [zk1 m2 z2 x2 y2 d2]))) (zk26 a1k [zkP,vI (wrap .i64 (0+1))] [zk1 m2 z2 x2 y2 d2] (fun i7 i8 i9 l7 l8 l9 l10 l11 l12 i10 i11 i12 i13=>.out (.ret (zkR (.agg [vI 13,vI op,vI 0,zkN 1 [],zkN 5 [],zkN 8 [zk40 k o n (a1D Pg (y_s_string:TypeId) (AV.slice s1 p w1).dis.dis) (a1D Pg (y_s_api_Pat:TypeId) (AV.slice s2 a w2).dis.dis) (a1D Pg (y_s_api_Exp:TypeId) (AV.slice s3 b w3).dis.dis) (a1D Pg (y_s_api_Dec:TypeId) (AV.slice s4 c w4).dis.dis) (a1D Pg (y_s_api_Ty:TypeId) (AV.slice s5 e w5).dis.dis),zk7 i7 i8 i9 l7 l8 l9 l10 l11],zkN 9 [],zkN 4 []]) [zk1 l12 i10 i11 i12 i13]))) zk27)):=by kernel_rfl
theorem p1Z (l z d i i1 i2 l1 l2 l3 l4 l5 l6 i3 i4 i5 i6 l7 i7 i8 i9 i10) (bb:Bool) (l8 i11 i12 i13 i14 r m z' x y d'):(KT.round Pg cfg0 rs0 kc5 (j1o l z d i i1 i2 l1 l2 l3 l4 l5 l6 i3 i4 i5 i6 l7 i7 i8 i9 i10 bb l8 i11 i12 i13 i14) (zkS 34 [(0,zkP),(2,.lp 2 0 0),(3,.lp 3 0 0)] [(2,0,zk10),(3,0,[vI 12,vI 0,vI 0,zkE,zkE,.slice 8 [r] .full,zkE,zkE])] [zk1 m z' x y d'] 1)).prune (PH.of 1715651275582325)=
 zk62 a1H [zkP] [zk1 m z' x y d'] (fun i15 s l9 i16 l10 l11 i17 i18 i19 i20=>zk31 a1f [zkP,vS zkb4] [zk1 l11 i17 i18 i19 i20] (fun l12 i21 i22 i23 i24=>zk26 a1i [zkP] [zk1 l12 i21 i22 i23 i24] (fun i25 i26 i27 l13 l14 l15 l16 l17 l18 i28 i29 i30 i31=>zk20 a1g [zkP,vS h2h] [zk1 l18 i28 i29 i30 i31] (fun b l19 i32 i33 i34 i35=>.branch (!b) (zk31 a1f [zkP,vS z1e] [zk1 l19 i32 i33 i34 i35] (fun l20 i36 i37 i38 i39=>.out (.ret (zkR (.agg [vI 12,vI 0,vI 0,zkN 1 [],zkN 5 [zk13 i15 s l9 i16 l10],zkN 8 [r,[(vI i25),(vI i26),(vI i27),(.slice 1 l13 .no),(.slice 5 l14 .no),(.slice 8 l15 .no),(.slice 9 l16 .no),(.slice 4 l17 .no)]],zkN 9 [],zkN 4 []]) [zk1 l20 i36 i37 i38 i39]))) zk27) (.done (zkS 34 [(0,zkP),(2,.lp 2 0 0),(3,.lp 3 0 0)] [(2,0,zk10),(3,0,[vI 12,vI 0,vI 0,zkE,.slice 5 [zk13 i15 s l9 i16 l10] .yes,.slice 8 [r,[(vI i25),(vI i26),(vI i27),(.slice 1 l13 .no),(.slice 5 l14 .no),(.slice 8 l15 .no),(.slice 9 l16 .no),(.slice 4 l17 .no)]] .yes,zkE,zkE])] [zk1 l19 i32 i33 i34 i35] 1)))) zk27) zk27) zk27:=by kernel_rfl
theorem q1a (l z d i i1 i2 l1 l2 l3 l4 l5 l6 i3 i4 i5 i6 l7 i7 i8 i9 i10) (bb:Bool) (l8 i11 i12 i13 i14 ps ks m z' x y d'):(KT.round Pg cfg0 rs0 kc5 (j1o l z d i i1 i2 l1 l2 l3 l4 l5 l6 i3 i4 i5 i6 l7 i7 i8 i9 i10 bb l8 i11 i12 i13 i14) (zkS 34 [(0,zkP),(2,.lp 2 0 0),(3,.lp 3 0 0)] [(2,0,zk10),(3,0,i2W ps ks)] [zk1 m z' x y d'] 1)).prune (PH.of 1715651275586429)=
 zk62 a1H [zkP] [zk1 m z' x y d'] (fun i15 s l9 i16 l10 l11 i17 i18 i19 i20=>.need ((ps.length+1).ble 2147483648) (zk31 a1f [zkP,vS zkb4] [zk1 l11 i17 i18 i19 i20] (fun l12 i21 i22 i23 i24=>zk26 a1i [zkP] [zk1 l12 i21 i22 i23 i24] (fun i25 i26 i27 l13 l14 l15 l16 l17 l18 i28 i29 i30 i31=>.need ((ks.length+1).ble 2147483648) (zk20 a1g [zkP,vS h2h] [zk1 l18 i28 i29 i30 i31] (fun b l19 i32 i33 i34 i35=>.branch (!b) (zk31 a1f [zkP,vS z1e] [zk1 l19 i32 i33 i34 i35] (fun l20 i36 i37 i38 i39=>.out (.ret (zkR (.agg [vI 12,vI 0,vI 0,zkN 1 [],zkN 5 (ps++[zk13 i15 s l9 i16 l10]),zkN 8 (ks++[zk7 i25 i26 i27 l13 l14 l15 l16 l17]),zkN 9 [],zkN 4 []]) [zk1 l20 i36 i37 i38 i39]))) zk27) (.done (zkS 34 [(0,zkP),(2,.lp 2 0 0),(3,.lp 3 0 0)] [(2,0,zk10),(3,0,i2W (ps++[[(vI i15),(vS s),(.slice 1 l9 .no),(vI i16),(.slice 5 l10 .no)]]) (ks++[[(vI i25),(vI i26),(vI i27),(.slice 1 l13 .no),(.slice 5 l14 .no),(.slice 8 l15 .no),(.slice 9 l16 .no),(.slice 4 l17 .no)]]))] [zk1 l19 i32 i33 i34 i35] 1))))) zk27) zk27)) zk27:=by kernel_rfl
theorem w1y (l z d) (b b1:Bool) (l1 i i1 i2 i3 m z' x y d'):(KT.round Pg cfg0 rs0 kc5 (s1B l z d b b1 l1 i i1 i2 i3) (zkS 109 [(0,zkP),(2,.lp 2 0 0),(4,.lp 4 0 0)] [(2,0,zk10),(4,0,[vI 10,vI 0,vI 0,zkE,zkE,zkE,zkE,zkE])] [zk1 m z' x y d'] 1)).prune (PH.of 56218670343862378925)=
 zk5 a1r [zkP,vS e2L] [zk1 m z' x y d'] (fun b2=>.branch b2 (e2P b1a [zkP] [zk1 m z' x y d'] (fun i4 i5 s l2 l3 l4 l5 l6 l7 l8 i6 i7 i8 i9=>.done (zkS 109 [(0,zkP),(2,.lp 2 0 0),(4,.lp 4 0 0)] [(2,0,zk10),(4,0,[vI 10,vI 0,vI 0,zkE,zkE,zkE,.slice 9 [zk43 i4 i5 s l2 l3 l4 l5 l6 l7] .yes,zkE])] [zk1 l8 i6 i7 i8 i9] 1)) e2R) (zk5 a1r [zkP,vS e2O] [zk1 m z' x y d'] (fun b3=>.branch b3 (e2P b1a [zkP] [zk1 m z' x y d'] (fun i4 i5 s l2 l3 l4 l5 l6 l7 l8 i6 i7 i8 i9=>.done (zkS 109 [(0,zkP),(2,.lp 2 0 0),(4,.lp 4 0 0)] [(2,0,zk10),(4,0,[vI 10,vI 0,vI 0,zkE,zkE,zkE,.slice 9 [zk43 i4 i5 s l2 l3 l4 l5 l6 l7] .yes,zkE])] [zk1 l8 i6 i7 i8 i9] 1)) e2R) (.out (zk31 a1f [zkP,vS e2N] [zk1 m z' x y d'] (fun l2 i4 i5 i6 i7=>zk26 a1i [zkP] [zk1 l2 i4 i5 i6 i7] (fun i8 i9 i10 l3 l4 l5 l6 l7 l8 i11 i12 i13 i14=>zk31 a1f [zkP,vS z1e] [zk1 l8 i11 i12 i13 i14] (fun l9 i15 i16 i17 i18=>.out (.ret (zkR (.agg [vI 10,vI 0,vI 0,zkN 1 [],zkN 5 [],zkN 8 [zk7 i8 i9 i10 l3 l4 l5 l6 l7],zkN 9 [],zkN 4 []]) [zk1 l9 i15 i16 i17 i18]))) zk27) zk27) zk27))))):=by kernel_rfl
theorem w1z (l z d) (b b1:Bool) (l1 i i1 i2 i3 ds m z' x y d'):(KT.round Pg cfg0 rs0 kc5 (s1B l z d b b1 l1 i i1 i2 i3) (zkS 109 [(0,zkP),(2,.lp 2 0 0),(4,.lp 4 0 0)] [(2,0,zk10),(4,0,zk94 ds)] [zk1 m z' x y d'] 1)).prune (PH.of 56218670343879156205)=
 zk5 a1r [zkP,vS e2L] [zk1 m z' x y d'] (fun b2=>.branch b2 (e2P b1a [zkP] [zk1 m z' x y d'] (fun i4 i5 s l2 l3 l4 l5 l6 l7 l8 i6 i7 i8 i9=>.need ((ds.length+1).ble 2147483648) (.done (zkS 109 [(0,zkP),(2,.lp 2 0 0),(4,.lp 4 0 0)] [(2,0,zk10),(4,0,zk94 (ds++[[(vI i4),(vI i5),(vS s),(.slice 1 l2 .no),(.slice 4 l3 .no),(.slice 8 l4 .no),(.slice 2 l5 .no),(.slice 5 l6 .no),(.slice 5 l7 .no)]]))] [zk1 l8 i6 i7 i8 i9] 1))) e2R) (zk5 a1r [zkP,vS e2O] [zk1 m z' x y d'] (fun b3=>.branch b3 (e2P b1a [zkP] [zk1 m z' x y d'] (fun i4 i5 s l2 l3 l4 l5 l6 l7 l8 i6 i7 i8 i9=>.need ((ds.length+1).ble 2147483648) (.done (zkS 109 [(0,zkP),(2,.lp 2 0 0),(4,.lp 4 0 0)] [(2,0,zk10),(4,0,zk94 (ds++[[(vI i4),(vI i5),(vS s),(.slice 1 l2 .no),(.slice 4 l3 .no),(.slice 8 l4 .no),(.slice 2 l5 .no),(.slice 5 l6 .no),(.slice 5 l7 .no)]]))] [zk1 l8 i6 i7 i8 i9] 1))) e2R) (.out (zk31 a1f [zkP,vS e2N] [zk1 m z' x y d'] (fun l2 i4 i5 i6 i7=>zk26 a1i [zkP] [zk1 l2 i4 i5 i6 i7] (fun i8 i9 i10 l3 l4 l5 l6 l7 l8 i11 i12 i13 i14=>zk31 a1f [zkP,vS z1e] [zk1 l8 i11 i12 i13 i14] (fun l9 i15 i16 i17 i18=>.out (.ret (zkR (.agg [vI 10,vI 0,vI 0,zkN 1 [],zkN 5 [],zkN 8 [zk7 i8 i9 i10 l3 l4 l5 l6 l7],zkN 9 ds,zkN 4 []]) [zk1 l9 i15 i16 i17 i18]))) zk27) zk27) zk27))))):=by kernel_rfl
end Go.Proofs
end

section
/- PARSE: the program's reader: expressions: fn, if, application, operators -/
set_option linter.unusedVariables false
set_option linter.unusedSimpArgs false
set_option maxRecDepth 100000
open Go Go.Eng Go.Pa
open Go.Lx (T Tok)
namespace Go.Proofs
abbrev E8 (k o n:Int) (p a b c e:List (List AV)):AV:=.agg [vI k,vI o,vI n,.slice 1 p .no,.slice 5 a .no,.slice 8 b .no,.slice 9 c .no,.slice 4 e .no]
theorem j2x (v:Nat):expV (.int v)=E8 1 0 v [] [] [] [] []:=by rw[←c1p];rfl
theorem j2y:expV .tru=E8 2 0 0 [] [] [] [] []:=by rw[←c1p];rfl
theorem j2z:expV .fls=E8 3 0 0 [] [] [] [] []:=by rw[←c1p];rfl
theorem h2F:expV .unit=E8 4 0 0 [] [] [] [] []:=by rw[←c1p];rfl
theorem g2u (p:List T):expV (.var p)=E8 5 0 0 (c1o p) [] [] [] []:=by rw[←c1p];rfl
theorem g2v (p:List T):expV (.con p)=E8 6 0 0 (c1o p) [] [] [] []:=by rw[←c1p];rfl
theorem ev_fn (p:Pat) (x:Exp):expV (.fn p x)=E8 7 0 0 [] [avs p.row] [avs x.row] [] []:=by rw[←c1p];rfl
theorem j2A (f x:Exp):expV (.app f x)=E8 8 0 0 [] [] [avs f.row,avs x.row] [] []:=by rw[←c1p];rfl
theorem h2G (f x:Exp):expV (.pair f x)=E8 9 0 0 [] [] [avs f.row,avs x.row] [] []:=by rw[←c1p];rfl
theorem h2H (l:List Dec) (x:Exp):expV (.lets l x)=E8 10 0 0 [] [] [avs x.row] (avss (j1h l)) []:=by rw[←c1p];rfl
theorem j2B (c a b:Exp):expV (.ite c a b)=E8 11 0 0 [] [] [avs c.row,avs a.row,avs b.row] [] []:=by rw[←c1p];rfl
theorem f2o (x:Exp) (l:List (Pat×Exp)):expV (.cases x l)=E8 12 0 0 [] (avss (l.map fun b=>b.1.row)) (avs x.row::avss (f1e l)) [] []:=by rw[←c1p];rfl
theorem c2q (o:Nat) (f x:Exp):expV (.bin o f x)=E8 13 o 0 [] [] [avs f.row,avs x.row] [] []:=by rw[←c1p];rfl
theorem j2C (x:Exp) (t:Ty):expV (.ann x t)=E8 14 0 0 [] [] [avs x.row] [] [avs t.row]:=by rw[←c1p];rfl
theorem p1K (l:List (List AV)):a1D Pg (y_s_api_Exp:TypeId) (AV.slice 8 l .no).dis.dis.dis=.slice 8 l .no:=by kernel_rfl
theorem o1n (a b:List AV):a1D Pg (y_s_api_Exp:TypeId) (AV.slice 8 [a,b] .full).dis.dis.dis=.slice 8 [a,b] .no:=by kernel_rfl
theorem p1L (l:List (List AV)):a1D Pg (y_s_api_Dec:TypeId) (AV.slice 9 l .no).dis.dis.dis=.slice 9 l .no:=by kernel_rfl
theorem p1M (l:List (List AV)):a1D Pg (y_s_api_Ty:TypeId) (AV.slice 4 l .no).dis.dis.dis=.slice 4 l .no:=by kernel_rfl
theorem m1c:a1D Pg (y_s_api_Pat:TypeId) (AV.slice 0 [] .full).dis.dis.dis=.slice 5 [] .no:=by kernel_rfl
theorem m1d:a1D Pg (y_s_api_Dec:TypeId) (AV.slice 0 [] .full).dis.dis.dis=.slice 9 [] .no:=by kernel_rfl
theorem j1m:a1D Pg (y_s_api_Ty:TypeId) (AV.slice 0 [] .full).dis.dis.dis=.slice 4 [] .no:=by kernel_rfl
theorem o1o (l:List (List AV)):a1D Pg (y_s_string:TypeId) (AV.slice 1 l .no).dis.dis=.slice 1 l .no:=by kernel_rfl
theorem p1N:a1D Pg (y_s_string:TypeId) (AV.slice 0 [] .full).dis.dis=.slice 1 [] .no:=by kernel_rfl
theorem o1p (l:List (List AV)):a1D Pg (y_s_api_Pat:TypeId) (AV.slice 5 l .no).dis.dis=.slice 5 l .no:=by kernel_rfl
theorem p1O:a1D Pg (y_s_api_Pat:TypeId) (AV.slice 0 [] .full).dis.dis=.slice 5 [] .no:=by kernel_rfl
theorem o1q (l:List (List AV)):a1D Pg (y_s_api_Exp:TypeId) (AV.slice 8 l .no).dis.dis=.slice 8 l .no:=by kernel_rfl
theorem p1P (a b:List AV):a1D Pg (y_s_api_Exp:TypeId) (AV.slice 8 [a,b] .full).dis.dis=.slice 8 [a,b] .no:=by kernel_rfl
theorem o1r (l:List (List AV)):a1D Pg (y_s_api_Dec:TypeId) (AV.slice 9 l .no).dis.dis=.slice 9 l .no:=by kernel_rfl
theorem p1Q:a1D Pg (y_s_api_Dec:TypeId) (AV.slice 0 [] .full).dis.dis=.slice 9 [] .no:=by kernel_rfl
theorem o1s (l:List (List AV)):a1D Pg (y_s_api_Ty:TypeId) (AV.slice 4 l .no).dis.dis=.slice 4 l .no:=by kernel_rfl
theorem p1R:a1D Pg (y_s_api_Ty:TypeId) (AV.slice 0 [] .full).dis.dis=.slice 4 [] .no:=by kernel_rfl
def brF (z n:Nat) (l:List Tok):Res Exp:=(pExp z n l).bind fun x r=>(need z wOf r).bind fun _ r=>(e1t z n [] (if isW wBar r then r.tail else r)).bind fun bs r=>.ok (.cases x bs) r
structure PE (z n:Nat):Prop where
 exp:∀{l:List Tok} {d:Nat},Gd l→0<d→8*l.length+7≤n→d+n<BIG→RC expV (pExp z n l) z d a1L [.ptr 0 0] (rH l z d)
 bin:∀{lv:Nat} {l:List Tok} {d:Nat},lv≤3→Gd l→0<d→8*l.length+(6-lv)≤n→d+n<BIG→RC expV (pBin z n lv l) z d a1k [.ptr 0 0,vI (lv:Nat)] (rH l z d)
 app:∀{l:List Tok} {d:Nat},Gd l→0<d→8*l.length+2≤n→d+n<BIG→RC expV (pApp z n l) z d b1r [.ptr 0 0] (rH l z d)
 atom:∀{l:List Tok} {d:Nat},Gd l→0<d→8*l.length+1≤n→d+n<BIG→RC expV (f1r z n l) z d a1v [.ptr 0 0] (rH l z d)
 br:∀{l:List Tok} {d:Nat},Gd l→0<d→8*l.length+7≤n→d+n+1<BIG→RC expV (brF z n l) z d a1T [.ptr 0 0] (rH l z d)
 dec:∀{l:List Tok} {d:Nat},Gd l→0<d→8*l.length+1≤n→d+n<BIG→RC decV (pDec z n l) z d a1B [.ptr 0 0] (rH l z d)
theorem PE.Exp {z n:Nat} (h:PE z n) {l:List Tok} {d:Nat} (hg:Gd l) (hn:8*l.length+7≤n) (hB:d+n+1<BIG):RM' expV exp0 (pExp z n l) z d a1i [.ptr 0 0] (rH l z d):=
 u1Q (by omega) (h.exp hg (Nat.succ_pos d) hn (by omega))
theorem PE.Dec {z n:Nat} (h:PE z n) {l:List Tok} {d:Nat} (hg:Gd l) (hn:8*l.length+1≤n) (hB:d+n+1<BIG):RM' decV decZ (pDec z n l) z d b1a [.ptr 0 0] (rH l z d):=
 c2p (by omega) (h.dec hg (Nat.succ_pos d) hn (by omega))
theorem j2D {z n:Nat} (I:PE z n) {l:List Tok} {d:Nat} (hg:Gd l) (hd:0<d) (hn:8*l.length+7≤n+1) (hB:d+(n+1)<BIG):RC expV (pExp z (n+1) l) z d a1L [.ptr 0 0] (rH l z d):=by
 generalize hX:pExp z (n+1) l=X
 rw[pExp] at hX
 refine i1C (b1g (c2y ..) ?_)
 refine c1c (b1G l z d _) (fun hw=>?_) (fun hw=>?_)
 ·have hw1:isW wFn l=true:=hw
  rw[if_pos hw1] at hX
  have hl:=b1k hw1
  refine p1I (c1Y hd ((c2o z n).Pat hg.tail (by omega) (by omega))) (fun p r hF hg1=>?_) (fun e p r hF he=>b1o (by rw[←hX,hF];rfl) he)
  have hl1:=(lenP z n).pat _ _ hF
  rw[hF] at hX;simp only[Res.bind] at hX
  refine c1V (c1n hg1 hd (by omega)) (fun u r2 hF2 hg2=>?_) (fun e p r2 hF2 he=>b1o (by have h':need z wDo r=.no e p:=hF2;rw[←hX,h']) he)
  have hF2':need z wDo r=.ok u r2:=hF2
  have hl2:=c1H hF2'
  rw[hF2'] at hX;simp only at hX
  refine e1b (c1Y hd (I.Exp hg2 (by omega) (by omega))) (fun x r3 hF3 hg3=>c1i (a:=.fn p x) (l:=r3) (by rw[←hX,hF3]) hg3 ?_) (fun e p r3 hF3 he=>b1o (by rw[←hX,hF3]) he)
  rw[ev_fn,g1z,b1C]
 ·have hw1:isW wFn l=false:=hw
  rw[if_neg (by rw[hw1];decide)] at hX
  refine c1c (b1G l z d _) (fun hw=>?_) (fun hw=>?_)
  ·have hw2:isW wIf l=true:=hw
   rw[if_pos hw2] at hX
   have hl:=b1k hw2
   refine e1b (c1Y hd (I.Exp hg.tail (by omega) (by omega))) (fun c r hF hg1=>?_) (fun e p r hF he=>b1o (by rw[←hX,hF];rfl) he)
   have hl1:=(lenE z n).exp _ _ hF
   rw[hF] at hX;simp only[Res.bind] at hX
   refine c1V (c1n hg1 hd (by omega)) (fun u r2 hF2 hg2=>?_) (fun e p r2 hF2 he=>b1o (by have h':need z g2Y r=.no e p:=hF2;rw[←hX,h']) he)
   have hF2':need z g2Y r=.ok u r2:=hF2
   have hl2:=c1H hF2'
   rw[hF2'] at hX;simp only at hX
   refine e1b (c1Y hd (I.Exp hg2 (by omega) (by omega))) (fun a r3 hF3 hg3=>?_) (fun e p r3 hF3 he=>b1o (by rw[←hX,hF3]) he)
   have hl3:=(lenE z n).exp _ _ hF3
   rw[hF3] at hX;simp only at hX
   refine c1V (c1n hg3 hd (by omega)) (fun u r4 hF4 hg4=>?_) (fun e p r4 hF4 he=>b1o (by have h':need z g2Z r3=.no e p:=hF4;rw[←hX,h']) he)
   have hF4':need z g2Z r3=.ok u r4:=hF4
   have hl4:=c1H hF4'
   rw[hF4'] at hX;simp only at hX
   refine e1b (c1Y hd (I.Exp hg4 (by omega) (by omega))) (fun b r5 hF5 hg5=>c1i (a:=.ite c a b) (l:=r5) (by rw[←hX,hF5]) hg5 ?_) (fun e p r5 hF5 he=>b1o (by rw[←hX,hF5]) he)
   rw[j2B,b1C c,b1C a,b1C b]
  ·have hw2:isW wIf l=false:=hw
   rw[if_neg (by rw[hw2];decide)] at hX
   exact e1b (I.bin (lv:=0) (by omega) hg hd (by omega) (by omega)) (fun x r hF hg1=>c1i (a:=x) (l:=r) (by rw[←hX,hF]) hg1 (c1p x)) (fun e p r hF he=>b1o (by rw[←hX,hF]) he)
def f1h:Bool→Int→Int→Exp→List AV
 |false,_,_,x=>[vI (XK x),vI (XO x),vI (XV x),.slice 1 (c1o (XP x)) .no,.slice 5 (avss (XPs x)) .no,.slice 8 (avss (XKs x)) .no,.slice 9 (avss (XDs x)) .no,.slice 4 (avss (XTs x)) .no]
 |true,k,o,x=>[vI k,vI o,vI 0,.slice 0 [] .full,.slice 0 [] .full,.slice 8 (avss (XKs x)) .full,.slice 0 [] .full,.slice 0 [] .full]
theorem o1t (f x:Exp):avss (XKs (.app f x))=[avs f.row,avs x.row]:=rfl
theorem h1S (o:Nat) (f x:Exp):avss (XKs (.bin o f x))=[avs f.row,avs x.row]:=rfl
theorem j2E {z n:Nat} (ih:∀m,m<n+1→PE z m) {l:List Tok} {d:Nat} (hg:Gd l) (hd:0<d) (hn:8*l.length+2≤n+1) (hB:d+(n+1)<BIG):RC expV (pApp z (n+1) l) z d b1r [.ptr 0 0] (rH l z d):=by
 have I:=ih n (Nat.lt_succ_self n)
 refine i1C (b1g (c2A ..) (e1b (I.atom hg hd (by omega) (by omega)) (fun t r hF hg1=>?_) (fun e p r hF he=>b1o (by rw[pApp,hF];rfl) he)))
 have hl:=(lenE z n).atom _ _ hF
 have hFF:pApp z (n+1) l=g1M z n t r:=by rw[pApp,hF];rfl
 rw[hFF]
 generalize hX:g1M z n t r=X
 have hY:((((((((((((((c2z (tks l) z d).T.I (XK t)).I (XO t)).I (XV t)).R (c1o (XP t))).R (avss (XPs t))).R (avss (XKs t))).R (avss (XDs t))).R (avss (XTs t))).R (tks r)).I z).I 0).I 0).I d).T=c2B (tks l) z d (XK t) (XO t) (XV t) (c1o (XP t)) (avss (XPs t)) (avss (XKs t)) (avss (XDs t)) (avss (XTs t)) (tks r) z 0 0 d:=by delta c2z c2B;rfl
 refine a1j hY (l1r (fun x:Nat×Bool×Exp×List Tok=>⟨tm2 42 [(0,(.ptr 0 0)),(2,(.lp 2 0 0)),(3,(.lp 3 0 0))],lm2 42 [(2,(0,[(vI (0)),(vI (0)),(vI (0)),(.slice 0 [] .full),(.slice 0 [] .full),(.slice 0 [] .full),(.slice 0 [] .full),(.slice 0 [] .full)])),(3,(0,f1h x.2.1 8 0 x.2.2.1))],⟨[hp5 (tks x.2.2.2) z 0 0 d],[],.none,1⟩⟩)
  (fun x=>X=g1M z x.1 x.2.2.1 x.2.2.2∧8*x.2.2.2.length+2≤x.1∧x.1≤n∧Gd x.2.2.2∧(x.2.1=true→∃a b,x.2.2.1=.app a b)) (fun x=>x.2.2.2.length) (n,false,t,r) (by kernel_rfl) ⟨hX.symm,by simp only;omega,Nat.le_refl _,hg1,fun h=>by cases h⟩ ?_)
 rintro ⟨k,fl,t,m⟩ ⟨hF,hk,hkn,hgm,hfl⟩
 simp only at hF hk hkn hgm hfl
 cases k with
 |zero=>omega
 |succ k=>
 have I2:=ih k (by omega)
 rw[g1M] at hF
 cases fl with
 |false=>
  refine b1g (r1G ..) ⟨_,g1O m z d 4,a1d (fun h1=>?_) fun h1=>⟨_,g1O m z d 1,a1d (fun h2=>?_) fun h2=>⟨_,g1O m z d 2,a1d (fun h3=>?_) fun h3=>⟨_,i1D m z d _,a1d (fun h4=>?_) fun h4=>⟨_,i1D m z d _,a1d (fun h5=>?_) fun h5=>⟨_,i1D m z d _,a1d (fun h6=>?_) fun h6=>⟨_,i1D m z d _,a1d (fun h7=>?_) fun h7=>⟨_,i1D m z d _,a1d (fun h8=>?_) fun h8=>?_⟩⟩⟩⟩⟩⟩⟩⟩
  case refine_9=>
   have h4:isW l1Z m=false:=h4
   have h5:isW h1M m=false:=h5
   have h6:isW wOpen m=false:=h6
   have h7:isW wLet m=false:=h7
   have h8:isW q1H m=false:=h8
   have hb:begE m=false:=by simp [begE,h1,h2,h3,h4,h5,h6,h7,h8]
   rw[m1R,m1S,p1K,p1L,p1M]
   exact a1h (c1i (a:=t) (l:=m) (by rw[hF,if_neg (by rw[hb];decide)]) hgm (c1p t))
  all_goals
   have hb:begE m=true:=by
    first
     |(simp [begE,h1];done)|(simp [begE,h2];done)|(simp [begE,h3];done)
     |(have h4:isW l1Z m=true:=h4;simp [begE,h4];done)
     |(have h5:isW h1M m=true:=h5;simp [begE,h5];done)
     |(have h6:isW wOpen m=true:=h6;simp [begE,h6];done)
     |(have h7:isW wLet m=true:=h7;simp [begE,h7];done)
     |(have h8:isW q1H m=true:=h8;simp [begE,h8];done)
   rw[if_pos hb] at hF
   refine e1b (I2.atom (l:=m) hgm hd (by omega) (by omega)) (fun u r2 hF2 hg2=>?_) (fun e p r2 hF2 he=>a1h (b1o (by rw[hF,hF2];rfl) he))
   have hl3:=(lenE z k).atom _ _ hF2
   refine a1e ⟨(k,true,.app t u,r2),⟨⟨by rw[hF,hF2];rfl,by simp only;omega,by simp only;omega,hg2,fun _=>⟨t,u,rfl⟩⟩,by simp only;omega⟩,?_⟩
   rw[o1o,o1p,o1q,o1r,o1s]
   simp only[f1h,o1t,b1C]
 |true=>
  obtain⟨a,b,rfl⟩:=hfl rfl
  refine b1g (r1G ..) ⟨_,g1O m z d 4,a1d (fun h1=>?_) fun h1=>⟨_,g1O m z d 1,a1d (fun h2=>?_) fun h2=>⟨_,g1O m z d 2,a1d (fun h3=>?_) fun h3=>⟨_,i1D m z d _,a1d (fun h4=>?_) fun h4=>⟨_,i1D m z d _,a1d (fun h5=>?_) fun h5=>⟨_,i1D m z d _,a1d (fun h6=>?_) fun h6=>⟨_,i1D m z d _,a1d (fun h7=>?_) fun h7=>⟨_,i1D m z d _,a1d (fun h8=>?_) fun h8=>?_⟩⟩⟩⟩⟩⟩⟩⟩
  case refine_9=>
   have h4:isW l1Z m=false:=h4
   have h5:isW h1M m=false:=h5
   have h6:isW wOpen m=false:=h6
   have h7:isW wLet m=false:=h7
   have h8:isW q1H m=false:=h8
   have hb:begE m=false:=by simp [begE,h1,h2,h3,h4,h5,h6,h7,h8]
   rw[h1Q,m1c,o1t,o1n,m1d,j1m]
   exact a1h (c1i (a:=.app a b) (l:=m) (by rw[hF,if_neg (by rw[hb];decide)]) hgm (j2A a b).symm)
  all_goals
   have hb:begE m=true:=by
    first
     |(simp [begE,h1];done)|(simp [begE,h2];done)|(simp [begE,h3];done)
     |(have h4:isW l1Z m=true:=h4;simp [begE,h4];done)
     |(have h5:isW h1M m=true:=h5;simp [begE,h5];done)
     |(have h6:isW wOpen m=true:=h6;simp [begE,h6];done)
     |(have h7:isW wLet m=true:=h7;simp [begE,h7];done)
     |(have h8:isW q1H m=true:=h8;simp [begE,h8];done)
   rw[if_pos hb] at hF
   refine e1b (I2.atom (l:=m) hgm hd (by omega) (by omega)) (fun u r2 hF2 hg2=>?_) (fun e p r2 hF2 he=>a1h (b1o (by rw[hF,hF2];rfl) he))
   have hl3:=(lenE z k).atom _ _ hF2
   refine a1e ⟨(k,true,.app (.app a b) u,r2),⟨⟨by rw[hF,hF2];rfl,by simp only;omega,by simp only;omega,hg2,fun _=>⟨_,u,rfl⟩⟩,by simp only;omega⟩,?_⟩
   rw[o1t,p1N,p1O,p1P,p1Q,p1R]
   simp only[f1h,o1t]
   rw[b1C (.app a b),b1C u];rfl
end Go.Proofs
end

section
/- PARSE: the program's reader: operators (printed by mkr8.py: three levels, alike) -/
set_option linter.unusedVariables false
set_option linter.unusedSimpArgs false
set_option maxRecDepth 100000
open Go Go.Eng Go.Pa
open Go.Lx (T Tok)
namespace Go.Proofs
theorem w01:IntKind.i64.wrap (0+1)=1:=by decide
theorem w11:IntKind.i64.wrap (1+1)=2:=by decide
theorem m01:((2:Int)-IntKind.i64.wrap (0+1)).toNat<((2:Int)-0).toNat:=by decide
theorem m11:((2:Int)-IntKind.i64.wrap (1+1)).toNat<((2:Int)-1).toNat:=by decide
theorem h2I {z n:Nat} (I:PE z n) {l:List Tok} {d:Nat} (hg:Gd l) (hd:0<d) (hn:8*l.length+3≤n+1) (hB:d+(n+1)<BIG):RC expV (pBin z (n+1) 3 l) z d a1k [.ptr 0 0,vI 3] (rH l z d):=by
 have hFF:pBin z (n+1) 3 l=pApp z n l:=by rw[pBin];rfl
 rw[hFF]
 exact i1C (b1g (z1q ..) (e1b (I.app hg hd (by omega) (by omega)) (fun x r hF hg1=>c1i (a:=x) (l:=r) hF hg1 (c1p x)) (fun e p r hF he=>b1o hF he)))
theorem h2J (l:List (List AV)) (z d:Int) (i i1 i2:Int) (l1 l2 l3 l4 l5 l6:List (List AV)) (i3 i4 i5 i6:Int):((((((((((((((w1u l z d).F.T.I i).I i1).I i2).R l1).R l2).R l3).R l4).R l5).R l6).I i3).I i4).I i5).I i6).T.F.F.T=p1U l z d i i1 i2 l1 l2 l3 l4 l5 l6 i3 i4 i5 i6:=by delta w1u p1U;rfl
theorem x1N (l:List (List AV)) (z d:Int) (i i1 i2:Int) (l1 l2 l3 l4 l5 l6:List (List AV)) (i3 i4 i5 i6:Int) (k o n:Int) (s1 s2 s3 s4 s5:Nat) (p a b c e:List (List AV)) (w1 w2 w3 w4 w5:Own) (m:List (List AV)) (z' x y d':Int):s1C l z d i i1 i2 l1 l2 l3 l4 l5 l6 i3 i4 i5 i6 k o n s1 s2 s3 s4 s5 p a b c e w1 w2 w3 w4 w5 m z' x y d'=m1e l z d i i1 i2 l1 l2 l3 l4 l5 l6 i3 i4 i5 i6 k o n s1 s2 s3 s4 s5 p a b c e w1 w2 w3 w4 w5 m z' x y d':=by delta s1C m1e;rfl
theorem r1B {m:List Tok}:opAt 2 m=if isW n1W m then 3 else if isW r1t m then 4 else 0:=rfl
theorem h2K {z n:Nat} (ih:∀m,m<n+1→PE z m) {l:List Tok} {d:Nat} (hg:Gd l) (hd:0<d) (hn:8*l.length+4≤n+1) (hB:d+(n+1)<BIG):RC expV (pBin z (n+1) 2 l) z d a1k [.ptr 0 0,vI 2] (rH l z d):=by
 have I:=ih n (Nat.lt_succ_self n)
 have e3:IntKind.i64.wrap (2+1)=((3:Nat):Int):=by decide
 have hb:=I.bin (lv:=3) (l:=l) (by omega) hg hd (by omega) (by omega)
 rw[←e3] at hb
 have hFF:pBin z (n+1) 2 l=(pBin z n 3 l).bind fun x r=>pOps z n 2 x r:=by rw[pBin];rfl
 rw[hFF]
 refine i1C (b1g (z1r ..) (e1b hb (fun t r hF hg1=>?_) (fun e p r hF he=>b1o (by rw[hF];rfl) he)))
 have hl:=(lenE z n).bin _ _ hF
 have hFF2:((pBin z n 3 l).bind fun x r=>pOps z n 2 x r)=pOps z n 2 t r:=by rw[hF];rfl
 rw[hFF2]
 generalize hX:pOps z n 2 t r=X
 refine a1j (h2J ..) (l1r (fun x:Nat×Bool×Exp×List Tok=>⟨tm2 54 [(0,(.ptr 0 0)),(1,(vI (2))),(4,(.lp 4 0 0)),(5,(.lp 5 0 0)),(6,(.lp 6 0 0)),(7,(.lp 7 0 0))],lm2 54 [(4,(0,[(vI (0)),(vI (0)),(vI (0)),(.slice 0 [] .full),(.slice 0 [] .full),(.slice 0 [] .full),(.slice 0 [] .full),(.slice 0 [] .full)])),(5,(0,f1h x.2.1 13 (XO x.2.2.1) x.2.2.1)),(6,(0,[(vS ((⟨#[42]⟩:ByteArray))),(vS ((⟨#[47]⟩:ByteArray)))])),(7,(0,[(vI (3)),(vI (4))]))],⟨[hp5 (tks x.2.2.2) z 0 0 d],[],.none,1⟩⟩)
  (fun x=>X=pOps z x.1 2 x.2.2.1 x.2.2.2∧8*x.2.2.2.length+3≤x.1∧x.1≤n∧Gd x.2.2.2∧(x.2.1=true→∃o a b,x.2.2.1=.bin o a b)) (fun x=>x.2.2.2.length) (n,false,t,r) (by kernel_rfl) ⟨hX.symm,by simp only;omega,Nat.le_refl _,hg1,fun h=>by cases h⟩ ?_)
 rintro ⟨k,fl,t,m⟩ ⟨hF,hk,hkn,hgm,hfl⟩
 simp only at hF hk hkn hgm hfl
 cases k with
 |zero=>omega
 |succ k=>
 have I2:=ih k (by omega)
 rw[pOps] at hF
 cases fl with
 |false=>
  refine b1g (p1X ..) (a1j (x1N ..) (l1r (fun x:Int×Int×List Tok=>⟨tm2 54 [(0,(.ptr 0 0)),(1,(vI (2))),(4,(.lp 4 0 0)),(5,(.lp 5 0 0)),(6,(.lp 6 0 0)),(7,(.lp 7 0 0)),(8,(vI (x.2.1))),(24,(.agg [(vS ((⟨#[42]⟩:ByteArray))),(vS ((⟨#[47]⟩:ByteArray)))])),(25,(vI (x.1)))],lm2 54 [(4,(0,[(vI (0)),(vI (0)),(vI (0)),(.slice 0 [] .full),(.slice 0 [] .full),(.slice 0 [] .full),(.slice 0 [] .full),(.slice 0 [] .full)])),(5,(0,f1h false 13 (XO t) t)),(6,(0,[(vS ((⟨#[42]⟩:ByteArray))),(vS ((⟨#[47]⟩:ByteArray)))])),(7,(0,[(vI (3)),(vI (4))]))],⟨[hp5 (tks x.2.2) z 0 0 d],[],.none,1⟩⟩)
   (fun x=>(x.1=0∧x.2.1=0∧x.2.2=m)∨(x.1=1∧((isW n1W m=true∧x.2.1=3∧x.2.2=m.tail)∨(isW n1W m=false∧x.2.1=0∧x.2.2=m)))∨(x.1=2∧((x.2.1=(opAt 2 m:Nat)∧opAt 2 m≠0∧x.2.2=m.tail)∨(opAt 2 m=0∧x.2.1=0∧x.2.2=m)))) (fun x=>(2-x.1).toNat) (0,0,m) (by kernel_rfl) (.inl ⟨rfl,rfl,rfl⟩) ?_))
  rintro ⟨j,op,q⟩ hj
  simp only at hj
  dsimp only[f1h]
  rcases hj with ⟨rfl,rfl,rfl⟩|⟨rfl,hj⟩|⟨rfl,hj⟩
  ·refine b1g (n1D ..) (c1c (b1G q z d _) (fun hw=>?_) (fun hw=>?_))
   ·exact a1e ⟨(IntKind.i64.wrap (0+1),3,q.tail),⟨.inr (.inl ⟨(by exact w01),.inl ⟨hw,rfl,rfl⟩⟩),(by exact m01)⟩,rfl⟩
   ·exact a1e ⟨(IntKind.i64.wrap (0+1),0,q),⟨.inr (.inl ⟨(by exact w01),.inr ⟨hw,rfl,rfl⟩⟩),(by exact m01)⟩,rfl⟩
  ·refine b1g (n1E ..) ?_
   rcases hj with ⟨hw,rfl,rfl⟩|⟨hw,rfl,rfl⟩
   ·have ho:opAt 2 m=3:=by rw[r1B,if_pos hw]
    exact a1d (fun h=>absurd h (by decide)) (fun _=>a1e ⟨(IntKind.i64.wrap (1+1),3,m.tail),⟨.inr (.inr ⟨(by exact w11),.inl ⟨by rw[ho];rfl,by rw[ho];decide,rfl⟩⟩),(by exact m11)⟩,rfl⟩)
   ·refine a1d (fun _=>c1c (b1G q z d _) (fun hw2=>?_) (fun hw2=>?_)) (fun h=>absurd h (by decide))
    ·have hw2:isW r1t q=true:=hw2
     have ho:opAt 2 q=4:=by rw[r1B,if_neg (by rw[hw];decide),if_pos hw2]
     exact a1e ⟨(IntKind.i64.wrap (1+1),4,q.tail),⟨.inr (.inr ⟨(by exact w11),.inl ⟨by rw[ho];rfl,by rw[ho];decide,rfl⟩⟩),(by exact m11)⟩,rfl⟩
    ·have hw2:isW r1t q=false:=hw2
     have ho:opAt 2 q=0:=by rw[r1B,if_neg (by rw[hw];decide),if_neg (by rw[hw2];decide)]
     exact a1e ⟨(IntKind.i64.wrap (1+1),0,q),⟨.inr (.inr ⟨(by exact w11),.inr ⟨ho,rfl,rfl⟩⟩),(by exact m11)⟩,rfl⟩
  ·refine b1g (n1F ..) (a1h ?_)
   rcases hj with ⟨rfl,ho,rfl⟩|⟨ho,rfl,rfl⟩
   ·refine a1d (fun h=>absurd (beq_iff_eq.1 h) (by omega)) (fun _=>?_)
    have hne:(opAt 2 m==0)=false:=by simpa using ho
    rw[if_neg (by rw[hne];decide)] at hF
    have htl:m.tail.length<m.length:=by
     cases m with
     |nil=>exact absurd rfl ho
     |cons t m=>simp
    have hb:=I2.bin (lv:=3) (l:=m.tail) (by omega) hgm.tail hd (by omega) (by omega)
    rw[←e3] at hb
    refine e1b hb (fun u r2 hF2 hg2=>?_) (fun e p r2 hF2 he=>a1h (b1o (by rw[hF,hF2];rfl) he))
    have hl3:=(lenE z k).bin _ _ hF2
    refine a1e ⟨(k,true,.bin (opAt 2 m) t u,r2),⟨⟨by rw[hF,hF2];rfl,by simp only;omega,by simp only;omega,hg2,fun _=>⟨_,_,_,rfl⟩⟩,by simp only;omega⟩,?_⟩
    rw[o1o,o1p,o1q,o1r,o1s]
    simp only[f1h,h1S]
    rw[b1C t,b1C u];rfl
   ·refine a1d (fun _=>a1h ?_) (fun h=>absurd h (by decide))
    rw[m1R,m1S,p1K,p1L,p1M]
    exact c1i (a:=t) (l:=q) (by rw[hF,if_pos (by rw[ho];decide)]) hgm (c1p t)
 |true=>
  obtain⟨o,a,b,rfl⟩:=hfl rfl
  refine b1g (p1X ..) (a1j (x1N ..) (l1r (fun x:Int×Int×List Tok=>⟨tm2 54 [(0,(.ptr 0 0)),(1,(vI (2))),(4,(.lp 4 0 0)),(5,(.lp 5 0 0)),(6,(.lp 6 0 0)),(7,(.lp 7 0 0)),(8,(vI (x.2.1))),(24,(.agg [(vS ((⟨#[42]⟩:ByteArray))),(vS ((⟨#[47]⟩:ByteArray)))])),(25,(vI (x.1)))],lm2 54 [(4,(0,[(vI (0)),(vI (0)),(vI (0)),(.slice 0 [] .full),(.slice 0 [] .full),(.slice 0 [] .full),(.slice 0 [] .full),(.slice 0 [] .full)])),(5,(0,f1h true 13 (XO (Exp.bin o a b)) (Exp.bin o a b))),(6,(0,[(vS ((⟨#[42]⟩:ByteArray))),(vS ((⟨#[47]⟩:ByteArray)))])),(7,(0,[(vI (3)),(vI (4))]))],⟨[hp5 (tks x.2.2) z 0 0 d],[],.none,1⟩⟩)
   (fun x=>(x.1=0∧x.2.1=0∧x.2.2=m)∨(x.1=1∧((isW n1W m=true∧x.2.1=3∧x.2.2=m.tail)∨(isW n1W m=false∧x.2.1=0∧x.2.2=m)))∨(x.1=2∧((x.2.1=(opAt 2 m:Nat)∧opAt 2 m≠0∧x.2.2=m.tail)∨(opAt 2 m=0∧x.2.1=0∧x.2.2=m)))) (fun x=>(2-x.1).toNat) (0,0,m) (by kernel_rfl) (.inl ⟨rfl,rfl,rfl⟩) ?_))
  rintro ⟨j,op,q⟩ hj
  simp only at hj
  dsimp only[f1h]
  rcases hj with ⟨rfl,rfl,rfl⟩|⟨rfl,hj⟩|⟨rfl,hj⟩
  ·refine b1g (n1D ..) (c1c (b1G q z d _) (fun hw=>?_) (fun hw=>?_))
   ·exact a1e ⟨(IntKind.i64.wrap (0+1),3,q.tail),⟨.inr (.inl ⟨(by exact w01),.inl ⟨hw,rfl,rfl⟩⟩),(by exact m01)⟩,rfl⟩
   ·exact a1e ⟨(IntKind.i64.wrap (0+1),0,q),⟨.inr (.inl ⟨(by exact w01),.inr ⟨hw,rfl,rfl⟩⟩),(by exact m01)⟩,rfl⟩
  ·refine b1g (n1E ..) ?_
   rcases hj with ⟨hw,rfl,rfl⟩|⟨hw,rfl,rfl⟩
   ·have ho:opAt 2 m=3:=by rw[r1B,if_pos hw]
    exact a1d (fun h=>absurd h (by decide)) (fun _=>a1e ⟨(IntKind.i64.wrap (1+1),3,m.tail),⟨.inr (.inr ⟨(by exact w11),.inl ⟨by rw[ho];rfl,by rw[ho];decide,rfl⟩⟩),(by exact m11)⟩,rfl⟩)
   ·refine a1d (fun _=>c1c (b1G q z d _) (fun hw2=>?_) (fun hw2=>?_)) (fun h=>absurd h (by decide))
    ·have hw2:isW r1t q=true:=hw2
     have ho:opAt 2 q=4:=by rw[r1B,if_neg (by rw[hw];decide),if_pos hw2]
     exact a1e ⟨(IntKind.i64.wrap (1+1),4,q.tail),⟨.inr (.inr ⟨(by exact w11),.inl ⟨by rw[ho];rfl,by rw[ho];decide,rfl⟩⟩),(by exact m11)⟩,rfl⟩
    ·have hw2:isW r1t q=false:=hw2
     have ho:opAt 2 q=0:=by rw[r1B,if_neg (by rw[hw];decide),if_neg (by rw[hw2];decide)]
     exact a1e ⟨(IntKind.i64.wrap (1+1),0,q),⟨.inr (.inr ⟨(by exact w11),.inr ⟨ho,rfl,rfl⟩⟩),(by exact m11)⟩,rfl⟩
  ·refine b1g (n1F ..) (a1h ?_)
   rcases hj with ⟨rfl,ho,rfl⟩|⟨ho,rfl,rfl⟩
   ·refine a1d (fun h=>absurd (beq_iff_eq.1 h) (by omega)) (fun _=>?_)
    have hne:(opAt 2 m==0)=false:=by simpa using ho
    rw[if_neg (by rw[hne];decide)] at hF
    have htl:m.tail.length<m.length:=by
     cases m with
     |nil=>exact absurd rfl ho
     |cons t m=>simp
    have hb:=I2.bin (lv:=3) (l:=m.tail) (by omega) hgm.tail hd (by omega) (by omega)
    rw[←e3] at hb
    refine e1b hb (fun u r2 hF2 hg2=>?_) (fun e p r2 hF2 he=>a1h (b1o (by rw[hF,hF2];rfl) he))
    have hl3:=(lenE z k).bin _ _ hF2
    refine a1e ⟨(k,true,.bin (opAt 2 m) (Exp.bin o a b) u,r2),⟨⟨by rw[hF,hF2];rfl,by simp only;omega,by simp only;omega,hg2,fun _=>⟨_,_,_,rfl⟩⟩,by simp only;omega⟩,?_⟩
    rw[h1S,p1N,p1O,p1P,p1Q,p1R]
    simp only[f1h,h1S]
    rw[b1C (Exp.bin o a b),b1C u];rfl
   ·refine a1d (fun _=>a1h ?_) (fun h=>absurd h (by decide))
    rw[h1Q,m1c,h1S,o1n,m1d,j1m]
    exact c1i (a:=(Exp.bin o a b)) (l:=q) (by rw[hF,if_pos (by rw[ho];decide)]) hgm (c2q o a b).symm
theorem h2L (l:List (List AV)) (z d:Int) (i i1 i2:Int) (l1 l2 l3 l4 l5 l6:List (List AV)) (i3 i4 i5 i6:Int):((((((((((((((w1v l z d).F.T.I i).I i1).I i2).R l1).R l2).R l3).R l4).R l5).R l6).I i3).I i4).I i5).I i6).T.F.T.T=p1V l z d i i1 i2 l1 l2 l3 l4 l5 l6 i3 i4 i5 i6:=by delta w1v p1V;rfl
theorem x1O (l:List (List AV)) (z d:Int) (i i1 i2:Int) (l1 l2 l3 l4 l5 l6:List (List AV)) (i3 i4 i5 i6:Int) (k o n:Int) (s1 s2 s3 s4 s5:Nat) (p a b c e:List (List AV)) (w1 w2 w3 w4 w5:Own) (m:List (List AV)) (z' x y d':Int):s1D l z d i i1 i2 l1 l2 l3 l4 l5 l6 i3 i4 i5 i6 k o n s1 s2 s3 s4 s5 p a b c e w1 w2 w3 w4 w5 m z' x y d'=m1f l z d i i1 i2 l1 l2 l3 l4 l5 l6 i3 i4 i5 i6 k o n s1 s2 s3 s4 s5 p a b c e w1 w2 w3 w4 w5 m z' x y d':=by delta s1D m1f;rfl
theorem r1C {m:List Tok}:opAt 1 m=if isW y1S m then 1 else if isW r1s m then 2 else 0:=rfl
theorem h2M {z n:Nat} (ih:∀m,m<n+1→PE z m) {l:List Tok} {d:Nat} (hg:Gd l) (hd:0<d) (hn:8*l.length+5≤n+1) (hB:d+(n+1)<BIG):RC expV (pBin z (n+1) 1 l) z d a1k [.ptr 0 0,vI 1] (rH l z d):=by
 have I:=ih n (Nat.lt_succ_self n)
 have e3:IntKind.i64.wrap (1+1)=((2:Nat):Int):=by decide
 have hb:=I.bin (lv:=2) (l:=l) (by omega) hg hd (by omega) (by omega)
 rw[←e3] at hb
 have hFF:pBin z (n+1) 1 l=(pBin z n 2 l).bind fun x r=>pOps z n 1 x r:=by rw[pBin];rfl
 rw[hFF]
 refine i1C (b1g (z1s ..) (e1b hb (fun t r hF hg1=>?_) (fun e p r hF he=>b1o (by rw[hF];rfl) he)))
 have hl:=(lenE z n).bin _ _ hF
 have hFF2:((pBin z n 2 l).bind fun x r=>pOps z n 1 x r)=pOps z n 1 t r:=by rw[hF];rfl
 rw[hFF2]
 generalize hX:pOps z n 1 t r=X
 refine a1j (h2L ..) (l1r (fun x:Nat×Bool×Exp×List Tok=>⟨tm2 54 [(0,(.ptr 0 0)),(1,(vI (1))),(4,(.lp 4 0 0)),(5,(.lp 5 0 0)),(6,(.lp 6 0 0)),(7,(.lp 7 0 0))],lm2 54 [(4,(0,[(vI (0)),(vI (0)),(vI (0)),(.slice 0 [] .full),(.slice 0 [] .full),(.slice 0 [] .full),(.slice 0 [] .full),(.slice 0 [] .full)])),(5,(0,f1h x.2.1 13 (XO x.2.2.1) x.2.2.1)),(6,(0,[(vS ((⟨#[43]⟩:ByteArray))),(vS ((⟨#[45]⟩:ByteArray)))])),(7,(0,[(vI (1)),(vI (2))]))],⟨[hp5 (tks x.2.2.2) z 0 0 d],[],.none,1⟩⟩)
  (fun x=>X=pOps z x.1 1 x.2.2.1 x.2.2.2∧8*x.2.2.2.length+3≤x.1∧x.1≤n∧Gd x.2.2.2∧(x.2.1=true→∃o a b,x.2.2.1=.bin o a b)) (fun x=>x.2.2.2.length) (n,false,t,r) (by kernel_rfl) ⟨hX.symm,by simp only;omega,Nat.le_refl _,hg1,fun h=>by cases h⟩ ?_)
 rintro ⟨k,fl,t,m⟩ ⟨hF,hk,hkn,hgm,hfl⟩
 simp only at hF hk hkn hgm hfl
 cases k with
 |zero=>omega
 |succ k=>
 have I2:=ih k (by omega)
 rw[pOps] at hF
 cases fl with
 |false=>
  refine b1g (p1Y ..) (a1j (x1O ..) (l1r (fun x:Int×Int×List Tok=>⟨tm2 54 [(0,(.ptr 0 0)),(1,(vI (1))),(4,(.lp 4 0 0)),(5,(.lp 5 0 0)),(6,(.lp 6 0 0)),(7,(.lp 7 0 0)),(8,(vI (x.2.1))),(24,(.agg [(vS ((⟨#[43]⟩:ByteArray))),(vS ((⟨#[45]⟩:ByteArray)))])),(25,(vI (x.1)))],lm2 54 [(4,(0,[(vI (0)),(vI (0)),(vI (0)),(.slice 0 [] .full),(.slice 0 [] .full),(.slice 0 [] .full),(.slice 0 [] .full),(.slice 0 [] .full)])),(5,(0,f1h false 13 (XO t) t)),(6,(0,[(vS ((⟨#[43]⟩:ByteArray))),(vS ((⟨#[45]⟩:ByteArray)))])),(7,(0,[(vI (1)),(vI (2))]))],⟨[hp5 (tks x.2.2) z 0 0 d],[],.none,1⟩⟩)
   (fun x=>(x.1=0∧x.2.1=0∧x.2.2=m)∨(x.1=1∧((isW y1S m=true∧x.2.1=1∧x.2.2=m.tail)∨(isW y1S m=false∧x.2.1=0∧x.2.2=m)))∨(x.1=2∧((x.2.1=(opAt 1 m:Nat)∧opAt 1 m≠0∧x.2.2=m.tail)∨(opAt 1 m=0∧x.2.1=0∧x.2.2=m)))) (fun x=>(2-x.1).toNat) (0,0,m) (by kernel_rfl) (.inl ⟨rfl,rfl,rfl⟩) ?_))
  rintro ⟨j,op,q⟩ hj
  simp only at hj
  dsimp only[f1h]
  rcases hj with ⟨rfl,rfl,rfl⟩|⟨rfl,hj⟩|⟨rfl,hj⟩
  ·refine b1g (n1G ..) (c1c (b1G q z d _) (fun hw=>?_) (fun hw=>?_))
   ·exact a1e ⟨(IntKind.i64.wrap (0+1),1,q.tail),⟨.inr (.inl ⟨(by exact w01),.inl ⟨hw,rfl,rfl⟩⟩),(by exact m01)⟩,rfl⟩
   ·exact a1e ⟨(IntKind.i64.wrap (0+1),0,q),⟨.inr (.inl ⟨(by exact w01),.inr ⟨hw,rfl,rfl⟩⟩),(by exact m01)⟩,rfl⟩
  ·refine b1g (n1H ..) ?_
   rcases hj with ⟨hw,rfl,rfl⟩|⟨hw,rfl,rfl⟩
   ·have ho:opAt 1 m=1:=by rw[r1C,if_pos hw]
    exact a1d (fun h=>absurd h (by decide)) (fun _=>a1e ⟨(IntKind.i64.wrap (1+1),1,m.tail),⟨.inr (.inr ⟨(by exact w11),.inl ⟨by rw[ho];rfl,by rw[ho];decide,rfl⟩⟩),(by exact m11)⟩,rfl⟩)
   ·refine a1d (fun _=>c1c (b1G q z d _) (fun hw2=>?_) (fun hw2=>?_)) (fun h=>absurd h (by decide))
    ·have hw2:isW r1s q=true:=hw2
     have ho:opAt 1 q=2:=by rw[r1C,if_neg (by rw[hw];decide),if_pos hw2]
     exact a1e ⟨(IntKind.i64.wrap (1+1),2,q.tail),⟨.inr (.inr ⟨(by exact w11),.inl ⟨by rw[ho];rfl,by rw[ho];decide,rfl⟩⟩),(by exact m11)⟩,rfl⟩
    ·have hw2:isW r1s q=false:=hw2
     have ho:opAt 1 q=0:=by rw[r1C,if_neg (by rw[hw];decide),if_neg (by rw[hw2];decide)]
     exact a1e ⟨(IntKind.i64.wrap (1+1),0,q),⟨.inr (.inr ⟨(by exact w11),.inr ⟨ho,rfl,rfl⟩⟩),(by exact m11)⟩,rfl⟩
  ·refine b1g (n1I ..) (a1h ?_)
   rcases hj with ⟨rfl,ho,rfl⟩|⟨ho,rfl,rfl⟩
   ·refine a1d (fun h=>absurd (beq_iff_eq.1 h) (by omega)) (fun _=>?_)
    have hne:(opAt 1 m==0)=false:=by simpa using ho
    rw[if_neg (by rw[hne];decide)] at hF
    have htl:m.tail.length<m.length:=by
     cases m with
     |nil=>exact absurd rfl ho
     |cons t m=>simp
    have hb:=I2.bin (lv:=2) (l:=m.tail) (by omega) hgm.tail hd (by omega) (by omega)
    rw[←e3] at hb
    refine e1b hb (fun u r2 hF2 hg2=>?_) (fun e p r2 hF2 he=>a1h (b1o (by rw[hF,hF2];rfl) he))
    have hl3:=(lenE z k).bin _ _ hF2
    refine a1e ⟨(k,true,.bin (opAt 1 m) t u,r2),⟨⟨by rw[hF,hF2];rfl,by simp only;omega,by simp only;omega,hg2,fun _=>⟨_,_,_,rfl⟩⟩,by simp only;omega⟩,?_⟩
    rw[o1o,o1p,o1q,o1r,o1s]
    simp only[f1h,h1S]
    rw[b1C t,b1C u];rfl
   ·refine a1d (fun _=>a1h ?_) (fun h=>absurd h (by decide))
    rw[m1R,m1S,p1K,p1L,p1M]
    exact c1i (a:=t) (l:=q) (by rw[hF,if_pos (by rw[ho];decide)]) hgm (c1p t)
 |true=>
  obtain⟨o,a,b,rfl⟩:=hfl rfl
  refine b1g (p1Y ..) (a1j (x1O ..) (l1r (fun x:Int×Int×List Tok=>⟨tm2 54 [(0,(.ptr 0 0)),(1,(vI (1))),(4,(.lp 4 0 0)),(5,(.lp 5 0 0)),(6,(.lp 6 0 0)),(7,(.lp 7 0 0)),(8,(vI (x.2.1))),(24,(.agg [(vS ((⟨#[43]⟩:ByteArray))),(vS ((⟨#[45]⟩:ByteArray)))])),(25,(vI (x.1)))],lm2 54 [(4,(0,[(vI (0)),(vI (0)),(vI (0)),(.slice 0 [] .full),(.slice 0 [] .full),(.slice 0 [] .full),(.slice 0 [] .full),(.slice 0 [] .full)])),(5,(0,f1h true 13 (XO (Exp.bin o a b)) (Exp.bin o a b))),(6,(0,[(vS ((⟨#[43]⟩:ByteArray))),(vS ((⟨#[45]⟩:ByteArray)))])),(7,(0,[(vI (1)),(vI (2))]))],⟨[hp5 (tks x.2.2) z 0 0 d],[],.none,1⟩⟩)
   (fun x=>(x.1=0∧x.2.1=0∧x.2.2=m)∨(x.1=1∧((isW y1S m=true∧x.2.1=1∧x.2.2=m.tail)∨(isW y1S m=false∧x.2.1=0∧x.2.2=m)))∨(x.1=2∧((x.2.1=(opAt 1 m:Nat)∧opAt 1 m≠0∧x.2.2=m.tail)∨(opAt 1 m=0∧x.2.1=0∧x.2.2=m)))) (fun x=>(2-x.1).toNat) (0,0,m) (by kernel_rfl) (.inl ⟨rfl,rfl,rfl⟩) ?_))
  rintro ⟨j,op,q⟩ hj
  simp only at hj
  dsimp only[f1h]
  rcases hj with ⟨rfl,rfl,rfl⟩|⟨rfl,hj⟩|⟨rfl,hj⟩
  ·refine b1g (n1G ..) (c1c (b1G q z d _) (fun hw=>?_) (fun hw=>?_))
   ·exact a1e ⟨(IntKind.i64.wrap (0+1),1,q.tail),⟨.inr (.inl ⟨(by exact w01),.inl ⟨hw,rfl,rfl⟩⟩),(by exact m01)⟩,rfl⟩
   ·exact a1e ⟨(IntKind.i64.wrap (0+1),0,q),⟨.inr (.inl ⟨(by exact w01),.inr ⟨hw,rfl,rfl⟩⟩),(by exact m01)⟩,rfl⟩
  ·refine b1g (n1H ..) ?_
   rcases hj with ⟨hw,rfl,rfl⟩|⟨hw,rfl,rfl⟩
   ·have ho:opAt 1 m=1:=by rw[r1C,if_pos hw]
    exact a1d (fun h=>absurd h (by decide)) (fun _=>a1e ⟨(IntKind.i64.wrap (1+1),1,m.tail),⟨.inr (.inr ⟨(by exact w11),.inl ⟨by rw[ho];rfl,by rw[ho];decide,rfl⟩⟩),(by exact m11)⟩,rfl⟩)
   ·refine a1d (fun _=>c1c (b1G q z d _) (fun hw2=>?_) (fun hw2=>?_)) (fun h=>absurd h (by decide))
    ·have hw2:isW r1s q=true:=hw2
     have ho:opAt 1 q=2:=by rw[r1C,if_neg (by rw[hw];decide),if_pos hw2]
     exact a1e ⟨(IntKind.i64.wrap (1+1),2,q.tail),⟨.inr (.inr ⟨(by exact w11),.inl ⟨by rw[ho];rfl,by rw[ho];decide,rfl⟩⟩),(by exact m11)⟩,rfl⟩
    ·have hw2:isW r1s q=false:=hw2
     have ho:opAt 1 q=0:=by rw[r1C,if_neg (by rw[hw];decide),if_neg (by rw[hw2];decide)]
     exact a1e ⟨(IntKind.i64.wrap (1+1),0,q),⟨.inr (.inr ⟨(by exact w11),.inr ⟨ho,rfl,rfl⟩⟩),(by exact m11)⟩,rfl⟩
  ·refine b1g (n1I ..) (a1h ?_)
   rcases hj with ⟨rfl,ho,rfl⟩|⟨ho,rfl,rfl⟩
   ·refine a1d (fun h=>absurd (beq_iff_eq.1 h) (by omega)) (fun _=>?_)
    have hne:(opAt 1 m==0)=false:=by simpa using ho
    rw[if_neg (by rw[hne];decide)] at hF
    have htl:m.tail.length<m.length:=by
     cases m with
     |nil=>exact absurd rfl ho
     |cons t m=>simp
    have hb:=I2.bin (lv:=2) (l:=m.tail) (by omega) hgm.tail hd (by omega) (by omega)
    rw[←e3] at hb
    refine e1b hb (fun u r2 hF2 hg2=>?_) (fun e p r2 hF2 he=>a1h (b1o (by rw[hF,hF2];rfl) he))
    have hl3:=(lenE z k).bin _ _ hF2
    refine a1e ⟨(k,true,.bin (opAt 1 m) (Exp.bin o a b) u,r2),⟨⟨by rw[hF,hF2];rfl,by simp only;omega,by simp only;omega,hg2,fun _=>⟨_,_,_,rfl⟩⟩,by simp only;omega⟩,?_⟩
    rw[h1S,p1N,p1O,p1P,p1Q,p1R]
    simp only[f1h,h1S]
    rw[b1C (Exp.bin o a b),b1C u];rfl
   ·refine a1d (fun _=>a1h ?_) (fun h=>absurd h (by decide))
    rw[h1Q,m1c,h1S,o1n,m1d,j1m]
    exact c1i (a:=(Exp.bin o a b)) (l:=q) (by rw[hF,if_pos (by rw[ho];decide)]) hgm (c2q o a b).symm
theorem h2N (l:List (List AV)) (z d:Int) (i i1 i2:Int) (l1 l2 l3 l4 l5 l6:List (List AV)) (i3 i4 i5 i6:Int):((((((((((((((w1w l z d).F.T.I i).I i1).I i2).R l1).R l2).R l3).R l4).R l5).R l6).I i3).I i4).I i5).I i6).T.T.T=p1W l z d i i1 i2 l1 l2 l3 l4 l5 l6 i3 i4 i5 i6:=by delta w1w p1W;rfl
theorem f2p (l:List (List AV)) (z d:Int) (i i1 i2:Int) (l1 l2 l3 l4 l5 l6:List (List AV)) (i3 i4 i5 i6:Int) (k o n:Int) (s1 s2 s3 s4 s5:Nat) (p a b c e:List (List AV)) (w1 w2 w3 w4 w5:Own) (m:List (List AV)) (z' x y d':Int):s1E l z d i i1 i2 l1 l2 l3 l4 l5 l6 i3 i4 i5 i6 k o n s1 s2 s3 s4 s5 p a b c e w1 w2 w3 w4 w5 m z' x y d'=m1g l z d i i1 i2 l1 l2 l3 l4 l5 l6 i3 i4 i5 i6 k o n s1 s2 s3 s4 s5 p a b c e w1 w2 w3 w4 w5 m z' x y d':=by delta s1E m1g;rfl
theorem c2r {m:List Tok}:opAt 0 m=if isW wEq m then 5 else if isW wLt m then 6 else 0:=rfl
theorem h2O {z n:Nat} (ih:∀m,m<n+1→PE z m) {l:List Tok} {d:Nat} (hg:Gd l) (hd:0<d) (hn:8*l.length+6≤n+1) (hB:d+(n+1)<BIG):RC expV (pBin z (n+1) 0 l) z d a1k [.ptr 0 0,vI 0] (rH l z d):=by
 have I:=ih n (Nat.lt_succ_self n)
 have e3:IntKind.i64.wrap (0+1)=((1:Nat):Int):=by decide
 have hb:=I.bin (lv:=1) (l:=l) (by omega) hg hd (by omega) (by omega)
 rw[←e3] at hb
 have hFF:pBin z (n+1) 0 l=(pBin z n 1 l).bind fun x r=>pOps z n 0 x r:=by rw[pBin];rfl
 rw[hFF]
 refine i1C (b1g (z1t ..) (e1b hb (fun t r hF hg1=>?_) (fun e p r hF he=>b1o (by rw[hF];rfl) he)))
 have hl:=(lenE z n).bin _ _ hF
 have hFF2:((pBin z n 1 l).bind fun x r=>pOps z n 0 x r)=pOps z n 0 t r:=by rw[hF];rfl
 rw[hFF2]
 generalize hX:pOps z n 0 t r=X
 refine a1j (h2N ..) (l1r (fun x:Nat×Bool×Exp×List Tok=>⟨tm2 54 [(0,(.ptr 0 0)),(1,(vI (0))),(4,(.lp 4 0 0)),(5,(.lp 5 0 0)),(6,(.lp 6 0 0)),(7,(.lp 7 0 0))],lm2 54 [(4,(0,[(vI (0)),(vI (0)),(vI (0)),(.slice 0 [] .full),(.slice 0 [] .full),(.slice 0 [] .full),(.slice 0 [] .full),(.slice 0 [] .full)])),(5,(0,f1h x.2.1 13 (XO x.2.2.1) x.2.2.1)),(6,(0,[(vS ((⟨#[61]⟩:ByteArray))),(vS ((⟨#[60]⟩:ByteArray)))])),(7,(0,[(vI (5)),(vI (6))]))],⟨[hp5 (tks x.2.2.2) z 0 0 d],[],.none,1⟩⟩)
  (fun x=>X=pOps z x.1 0 x.2.2.1 x.2.2.2∧8*x.2.2.2.length+5≤x.1∧x.1≤n∧Gd x.2.2.2∧x.2.1=false) (fun x=>x.2.2.2.length) (n,false,t,r) (by kernel_rfl) ⟨hX.symm,by simp only;omega,Nat.le_refl _,hg1,rfl⟩ ?_)
 rintro ⟨k,fl,t,m⟩ ⟨hF,hk,hkn,hgm,hfl⟩
 simp only at hF hk hkn hgm hfl
 cases k with
 |zero=>omega
 |succ k=>
 have I2:=ih k (by omega)
 rw[pOps] at hF
 subst hfl
 refine b1g (w1x ..) (a1j (f2p ..) (l1r (fun x:Int×Int×List Tok=>⟨tm2 54 [(0,(.ptr 0 0)),(1,(vI (0))),(4,(.lp 4 0 0)),(5,(.lp 5 0 0)),(6,(.lp 6 0 0)),(7,(.lp 7 0 0)),(8,(vI (x.2.1))),(24,(.agg [(vS ((⟨#[61]⟩:ByteArray))),(vS ((⟨#[60]⟩:ByteArray)))])),(25,(vI (x.1)))],lm2 54 [(4,(0,[(vI (0)),(vI (0)),(vI (0)),(.slice 0 [] .full),(.slice 0 [] .full),(.slice 0 [] .full),(.slice 0 [] .full),(.slice 0 [] .full)])),(5,(0,f1h false 13 (XO t) t)),(6,(0,[(vS ((⟨#[61]⟩:ByteArray))),(vS ((⟨#[60]⟩:ByteArray)))])),(7,(0,[(vI (5)),(vI (6))]))],⟨[hp5 (tks x.2.2) z 0 0 d],[],.none,1⟩⟩)
  (fun x=>(x.1=0∧x.2.1=0∧x.2.2=m)∨(x.1=1∧((isW wEq m=true∧x.2.1=5∧x.2.2=m.tail)∨(isW wEq m=false∧x.2.1=0∧x.2.2=m)))∨(x.1=2∧((x.2.1=(opAt 0 m:Nat)∧opAt 0 m≠0∧x.2.2=m.tail)∨(opAt 0 m=0∧x.2.1=0∧x.2.2=m)))) (fun x=>(2-x.1).toNat) (0,0,m) (by kernel_rfl) (.inl ⟨rfl,rfl,rfl⟩) ?_))
 rintro ⟨j,op,q⟩ hj
 simp only at hj
 dsimp only[f1h]
 rcases hj with ⟨rfl,rfl,rfl⟩|⟨rfl,hj⟩|⟨rfl,hj⟩
 ·refine b1g (v1a ..) (c1c (b1G q z d _) (fun hw=>?_) (fun hw=>?_))
  ·exact a1e ⟨(IntKind.i64.wrap (0+1),5,q.tail),⟨.inr (.inl ⟨(by exact w01),.inl ⟨hw,rfl,rfl⟩⟩),(by exact m01)⟩,rfl⟩
  ·exact a1e ⟨(IntKind.i64.wrap (0+1),0,q),⟨.inr (.inl ⟨(by exact w01),.inr ⟨hw,rfl,rfl⟩⟩),(by exact m01)⟩,rfl⟩
 ·refine b1g (v1b ..) ?_
  rcases hj with ⟨hw,rfl,rfl⟩|⟨hw,rfl,rfl⟩
  ·have ho:opAt 0 m=5:=by rw[c2r,if_pos hw]
   exact a1d (fun h=>absurd h (by decide)) (fun _=>a1e ⟨(IntKind.i64.wrap (1+1),5,m.tail),⟨.inr (.inr ⟨(by exact w11),.inl ⟨by rw[ho];rfl,by rw[ho];decide,rfl⟩⟩),(by exact m11)⟩,rfl⟩)
  ·refine a1d (fun _=>c1c (b1G q z d _) (fun hw2=>?_) (fun hw2=>?_)) (fun h=>absurd h (by decide))
   ·have hw2:isW wLt q=true:=hw2
    have ho:opAt 0 q=6:=by rw[c2r,if_neg (by rw[hw];decide),if_pos hw2]
    exact a1e ⟨(IntKind.i64.wrap (1+1),6,q.tail),⟨.inr (.inr ⟨(by exact w11),.inl ⟨by rw[ho];rfl,by rw[ho];decide,rfl⟩⟩),(by exact m11)⟩,rfl⟩
   ·have hw2:isW wLt q=false:=hw2
    have ho:opAt 0 q=0:=by rw[c2r,if_neg (by rw[hw];decide),if_neg (by rw[hw2];decide)]
    exact a1e ⟨(IntKind.i64.wrap (1+1),0,q),⟨.inr (.inr ⟨(by exact w11),.inr ⟨ho,rfl,rfl⟩⟩),(by exact m11)⟩,rfl⟩
 ·refine b1g (v1c ..) (a1h ?_)
  rcases hj with ⟨rfl,ho,rfl⟩|⟨ho,rfl,rfl⟩
  ·refine a1d (fun h=>absurd (beq_iff_eq.1 h) (by omega)) (fun _=>?_)
   have hne:(opAt 0 m==0)=false:=by simpa using ho
   rw[if_neg (by rw[hne];decide)] at hF
   have htl:m.tail.length<m.length:=by
    cases m with
    |nil=>exact absurd rfl ho
    |cons t m=>simp
   have hb:=I2.bin (lv:=1) (l:=m.tail) (by omega) hgm.tail hd (by omega) (by omega)
   rw[←e3] at hb
   refine e1b hb (fun u r2 hF2 hg2=>?_) (fun e p r2 hF2 he=>a1h (b1o (by rw[hF,hF2];rfl) he))
   have hl3:=(lenE z k).bin _ _ hF2
   rw[o1o,o1p,o1q,o1r,o1s]
   refine a1h (c1i (a:=.bin (opAt 0 m) t u) (l:=r2) (by rw[hF,hF2];rfl) hg2 ?_)
   rw[c2q,b1C t,b1C u]
  ·refine a1d (fun _=>a1h ?_) (fun h=>absurd h (by decide))
   rw[m1R,m1S,p1K,p1L,p1M]
   exact c1i (a:=t) (l:=q) (by rw[hF,if_pos (by rw[ho];decide)]) hgm (c1p t)
end Go.Proofs
end

section
/- PARSE: the program's reader: the branches of a case, atoms -/
set_option linter.unusedVariables false
set_option linter.unusedSimpArgs false
set_option maxRecDepth 100000
open Go Go.Eng Go.Pa
open Go.Lx (T Tok)
namespace Go.Proofs
abbrev ex8 (x:Exp):List AV:=[vI (XK x),vI (XO x),vI (XV x),.slice 1 (c1o (XP x)) .no,.slice 5 (avss (XPs x)) .no,.slice 8 (avss (XKs x)) .no,.slice 9 (avss (XDs x)) .no,.slice 4 (avss (XTs x)) .no]
abbrev pt5 (p:Pat):List AV:=[vI (patK p),vS (patN p),.slice 1 (patP p) .no,vI (patM p),.slice 5 (patQ p) .no]
abbrev dc9 (d:Dec):List AV:=[vI (DK d),vI (DA d),vS (bs (DN d)),.slice 1 (c1o (DP d)) .no,.slice 4 (avss (DTs d)) .no,.slice 8 (avss (DEs d)) .no,.slice 2 [] .no,.slice 5 [] .no,.slice 5 [] .no]
abbrev S0:AV:=.slice 0 [] .full
def brPs (l:List (Pat×Exp)):List (List AV):=avss (l.map fun b=>b.1.row)
def brKs (x:Exp) (l:List (Pat×Exp)):List (List AV):=ex8 x::avss (f1e l)
theorem u1R (l:List (Pat×Exp)) (p:Pat) (y:Exp):brPs (l++[(p,y)])=brPs l++[pt5 p]:=by
 simp only[brPs,List.map_append,List.map_cons,List.map_nil,l1b,avss,g1z]
theorem u1S (x:Exp) (l:List (Pat×Exp)) (p:Pat) (y:Exp):brKs x (l++[(p,y)])=brKs x l++[ex8 y]:=by
 simp only[brKs,y1T,f1e,l1b,avss,b1C,List.cons_append]
theorem f2q (l:List (Pat×Exp)):(brPs l).length=l.length:=by rw[brPs,b1L,List.length_map]
theorem r1D:∀l:List (Pat×Exp),(f1e l).length=l.length
 |[]=>rfl
 |(_,_)::l=>by rw[f1e,List.length_cons,r1D l,List.length_cons]
theorem f2r (x:Exp) (l:List (Pat×Exp)):(brKs x l).length=l.length+1:=by rw[brKs,List.length_cons,b1L,r1D]
theorem u1T (x:Exp) (l:List (Pat×Exp)):expV (.cases x l)=E8 12 0 0 [] (brPs l) (brKs x l) [] []:=by rw[f2o,b1C];rfl
def w1p (x:Exp):List (Pat×Exp)→List AV
 |[]=>[vI 12,vI 0,vI 0,S0,S0,.slice 8 [ex8 x] .full,S0,S0]
 |b::l=>[vI 12,vI 0,vI 0,S0,.slice 5 (brPs (b::l)) .yes,.slice 8 (brKs x (b::l)) .yes,S0,S0]
theorem u1U (x:Exp) (l:List (Pat×Exp)) (p:Pat) (y:Exp):w1p x (l++[(p,y)])=[vI 12,vI 0,vI 0,S0,.slice 5 (brPs l++[pt5 p]) .yes,.slice 8 (brKs x l++[ex8 y]) .yes,S0,S0]:=by
 rw[←u1R l p y,←u1S x l p y]
 cases l<;>rfl
section
variable {QD:List (St→Prop)} {QR:CRes→Prop}
theorem x1P {g:FuncId} {args:List AV} {H:Heap} {l:List Tok} {z d:Nat} {w:ByteArray} {t f:List (List AV)→Int→Int→Int→Int→KT}
  (c:evp g args .none H=some ⟨.ret (vB (isW (tx w) l)),.none,rH (if isW (tx w) l then l.tail else l) z d⟩)
  (h1:isW (tx w) l=true→(t (tks l.tail) z 0 0 d).wp Pg cfg0 evp QD QR) (h2:isW (tx w) l=false→(f (tks l) z 0 0 d).wp Pg cfg0 evp QD QR):
  (KT.exB fun b=>.exR fun m=>.exI fun a=>.exI fun e=>.exI fun p=>.exI fun d'=>.call g args .none H ⟨.ret (vB b),.none,[hp5 m a e p d']⟩ (.branch (!b) (f m a e p d') (t m a e p d'))).wp Pg cfg0 evp QD QR:=by
 cases hb:isW (tx w) l with
 |true=>rw[hb] at c;exact⟨true,_,_,_,_,_,c,fun h=>(by cases h),fun _=>h1 hb⟩
 |false=>rw[hb] at c;exact⟨false,_,_,_,_,_,c,fun _=>h2 hb,fun h=>(by cases h)⟩
end
theorem w1q (l:List (List AV)) (z d:Int) (i i1 i2:Int) (l1 l2 l3 l4 l5 l6:List (List AV)) (i3 i4 i5 i6:Int) (l7:List (List AV)) (i7 i8 i9 i10:Int) (b:Bool) (l8:List (List AV)) (i11 i12 i13 i14:Int):(((((((((((((((((((((((((l1l l z d).T.I i).I i1).I i2).R l1).R l2).R l3).R l4).R l5).R l6).I i3).I i4).I i5).I i6).T.T.R l7).I i7).I i8).I i9).I i10).T.B b).R l8).I i11).I i12).I i13).I i14).T=j1o l z d i i1 i2 l1 l2 l3 l4 l5 l6 i3 i4 i5 i6 l7 i7 i8 i9 i10 b l8 i11 i12 i13 i14:=by delta l1l j1o;rfl
theorem f2s {n:Nat} (h:n≤2147483648):Nat.ble n 2147483648=true:=Nat.ble_eq_true_of_le h
theorem pe_br {z n:Nat} (hN:n+1<2147483648) (I:PE z n) (hexp:∀{l:List Tok} {d:Nat},Gd l→0<d→8*l.length+7≤n+1→d+(n+1)<BIG→RC expV (pExp z (n+1) l) z d a1L [.ptr 0 0] (rH l z d)) (ih:∀m,m<n+1→PE z m)
  {l:List Tok} {d:Nat} (hg:Gd l) (hd:0<d) (hn:8*l.length+7≤n+1) (hB:d+(n+1)+1<BIG):RC expV (brF z (n+1) l) z d a1T [.ptr 0 0] (rH l z d):=by
 generalize hX:brF z (n+1) l=X
 rw[brF] at hX
 refine i1C (b1g (q1J ..) (e1b (c1Y hd (u1Q (by omega) (hexp hg (Nat.succ_pos d) hn (by omega)))) (fun x r hF hg1=>?_) (fun e p r hF he=>b1o (by rw[←hX,hF];rfl) he)))
 have hl:=(lenE z (n+1)).exp _ _ hF
 rw[hF] at hX;simp only[Res.bind] at hX
 refine c1V (c1n hg1 hd (by omega)) (fun u r2 hF2 hg2=>?_) (fun e p r2 hF2 he=>b1o (by have h':need z wOf r=.no e p:=hF2;rw[←hX,h']) he)
 have hF2':need z wOf r=.ok u r2:=hF2
 have hl2:=c1H hF2'
 rw[hF2'] at hX;simp only at hX
 refine⟨_,_,_,_,_,_,b1G r2 z d _,?_⟩
 have hX':((e1t z (n+1) [] (if isW wBar r2 then r2.tail else r2)).bind fun bs r=>.ok (.cases x bs) r)=X:=hX
 generalize hr3:(if isW (tx ⟨#[124]⟩) r2=true then r2.tail else r2)=r3
 have hr3':(if isW wBar r2=true then r2.tail else r2)=r3:=hr3
 rw[hr3'] at hX'
 have hl3:r3.length≤r2.length:=by rw[←hr3];split;exact h1j _;exact Nat.le_refl _
 have hg3:Gd r3:=by rw[←hr3];split;exact hg2.tail;exact hg2
 refine a1j (w1q ..) (l1r (fun s:Nat×List (Pat×Exp)×List Tok=>⟨tm2 34 [(0,(.ptr 0 0)),(2,(.lp 2 0 0)),(3,(.lp 3 0 0))],lm2 34 [(2,(0,[vI 0,vI 0,vI 0,S0,S0,S0,S0,S0])),(3,(0,w1p x s.2.1))],⟨[hp5 (tks s.2.2) z 0 0 d],[],.none,1⟩⟩)
  (fun s=>X=((e1t z s.1 s.2.1 s.2.2).bind fun bs r=>.ok (.cases x bs) r)∧8*s.2.2.length+3≤s.1∧s.1≤n+1∧Gd s.2.2∧s.2.1.length+s.2.2.length≤l.length) (fun s=>s.2.2.length) (n+1,[],r3) (by kernel_rfl) ⟨hX'.symm,by simp only;omega,Nat.le_refl _,hg3,by simp only[List.length_nil];omega⟩ ?_)
 rintro ⟨k,bs,m⟩ ⟨hF,hk,hkn,hgm,hlen⟩
 dsimp only at hF hk hkn hgm hlen⊢
 cases k with
 |zero=>omega
 |succ k=>
 have I2:=ih k (by omega)
 rw[e1t] at hF
 cases bs with
 |nil=>
  refine b1g (p1Z ..) (p1I (c1Y hd ((c2o z k).Pat hgm (by omega) (by omega))) (fun p q hF1 hg4=>?_) (fun e p q hF1 he=>a1h (b1o (by rw[hF,hF1];rfl) he)))
  have hl4:=(lenP z k).pat _ _ hF1
  rw[hF1] at hF;simp only[Res.bind] at hF
  refine c1V (c1n hg4 hd (by omega)) (fun u q2 hF2 hg5=>?_) (fun e p q2 hF2 he=>a1h (b1o (by have h':need z wDo q=.no e p:=hF2;rw[hF,h']) he))
  have hF2':need z wDo q=.ok u q2:=hF2
  have hl5:=c1H hF2'
  rw[hF2'] at hF;simp only at hF
  refine e1b (c1Y hd (I2.Exp hg5 (by omega) (by omega))) (fun y q3 hF3 hg6=>?_) (fun e p q3 hF3 he=>a1h (b1o (by rw[hF,hF3]) he))
  have hl6:=(lenE z k).exp _ _ hF3
  rw[hF3] at hF;simp only at hF
  refine x1P (b1G q3 z d _) (fun hw=>?_) (fun hw=>?_)
  ·have hw:isW wBar q3=true:=hw
   have hl7:=b1k hw
   rw[if_pos hw] at hF
   refine a1e ⟨(k,[(p,y)],q3.tail),⟨⟨hF,by simp only;omega,by simp only;omega,hg6.tail,by simp only[List.length_cons,List.length_nil];omega⟩,by simp only;omega⟩,?_⟩
   simp only[w1p,brPs,brKs,List.map_cons,List.map_nil,f1e,avss,g1z,b1C]
  ·have hw:isW wBar q3=false:=hw
   rw[if_neg (by rw[hw];decide)] at hF
   refine c1V (c1n hg6 hd (by omega)) (fun u q4 hF4 hg7=>a1h (c1i (a:=.cases x [(p,y)]) (l:=q4) (by have h':need z wEnd q3=.ok u q4:=hF4;rw[hF,h'];rfl) hg7 ?_)) (fun e p q4 hF4 he=>a1h (b1o (by have h':need z wEnd q3=.no e p:=hF4;rw[hF,h']) he))
   rw[u1T]
   simp only[brPs,brKs,List.map_cons,List.map_nil,f1e,avss,g1z,b1C]
 |cons b bs=>
  have hln:(brPs (b::bs)).length+1≤2147483648:=by rw[f2q];omega
  have hln2:(brKs x (b::bs)).length+1≤2147483648:=by rw[f2r];omega
  refine b1g (q1a ..) (p1I (c1Y hd ((c2o z k).Pat hgm (by omega) (by omega))) (fun p q hF1 hg4=>⟨f2s hln,?_⟩) (fun e p q hF1 he=>a1h (b1o (by rw[hF,hF1];rfl) he)))
  have hl4:=(lenP z k).pat _ _ hF1
  rw[hF1] at hF;simp only[Res.bind] at hF
  refine c1V (c1n hg4 hd (by omega)) (fun u q2 hF2 hg5=>?_) (fun e p q2 hF2 he=>a1h (b1o (by have h':need z wDo q=.no e p:=hF2;rw[hF,h']) he))
  have hF2':need z wDo q=.ok u q2:=hF2
  have hl5:=c1H hF2'
  rw[hF2'] at hF;simp only at hF
  refine e1b (c1Y hd (I2.Exp hg5 (by omega) (by omega))) (fun y q3 hF3 hg6=>⟨f2s hln2,?_⟩) (fun e p q3 hF3 he=>a1h (b1o (by rw[hF,hF3]) he))
  have hl6:=(lenE z k).exp _ _ hF3
  rw[hF3] at hF;simp only at hF
  refine x1P (b1G q3 z d _) (fun hw=>?_) (fun hw=>?_)
  ·have hw:isW wBar q3=true:=hw
   have hl7:=b1k hw
   rw[if_pos hw] at hF
   refine a1e ⟨(k,(b::bs)++[(p,y)],q3.tail),⟨⟨hF,by simp only;omega,by simp only;omega,hg6.tail,by simp only[List.length_append,List.length_cons,List.length_nil] at hlen⊢;omega⟩,by simp only;omega⟩,?_⟩
   simp only[u1U]
  ·have hw:isW wBar q3=false:=hw
   rw[if_neg (by rw[hw];decide)] at hF
   refine c1V (c1n hg6 hd (by omega)) (fun u q4 hF4 hg7=>a1h (c1i (a:=.cases x ((b::bs)++[(p,y)])) (l:=q4) (by have h':need z wEnd q3=.ok u q4:=hF4;rw[hF,h']) hg7 ?_)) (fun e p q4 hF4 he=>a1h (b1o (by have h':need z wEnd q3=.no e p:=hF4;rw[hF,h']) he))
   rw[u1T,u1R,u1S]
end Go.Proofs
end

section
/- PARSE: the program's reader: atoms -/
set_option linter.unusedVariables false
set_option linter.unusedSimpArgs false
set_option maxRecDepth 100000
open Go Go.Eng Go.Pa
open Go.Lx (T Tok)
namespace Go.Proofs
def dsR (l:List Dec):List (List AV):=avss (j1h l)
theorem f2c (l:List Dec) (d:Dec):dsR (l++[d])=dsR l++[dc9 d]:=by
 simp only[dsR,b2K,j1h,l1b,avss,m1T]
theorem u1M:∀l:List Dec,(j1h l).length=l.length
 |[]=>rfl
 |_::l=>by rw[j1h,List.length_cons,u1M l,List.length_cons]
theorem h2A (l:List Dec):(dsR l).length=l.length:=by rw[dsR,b1L,u1M]
theorem x1I (l:List Dec) (x:Exp):expV (.lets l x)=E8 10 0 0 [] [] [ex8 x] (dsR l) []:=by rw[h2H,b1C];rfl
def w1l:List Dec→List AV
 |[]=>[vI 10,vI 0,vI 0,S0,S0,S0,S0,S0]
 |d::l=>[vI 10,vI 0,vI 0,S0,S0,S0,.slice 9 (dsR (d::l)) .yes,S0]
theorem u1N (l:List Dec) (d:Dec):w1l (l++[d])=[vI 10,vI 0,vI 0,S0,S0,S0,.slice 9 (dsR l++[dc9 d]) .yes,S0]:=by
 rw[←f2c l d]
 cases l<;>rfl
theorem h2B (l:List (List AV)) (z d:Int) (b b1:Bool) (l1:List (List AV)) (i i1 i2 i3:Int):((((((((m1V l z d).T.B b).T.F.B b1).R l1).I i).I i1).I i2).I i3).T.T=s1B l z d b b1 l1 i i1 i2 i3:=by delta m1V s1B;rfl
theorem f2d (a:List AV):a1D Pg (y_s_api_Exp:TypeId) (AV.slice 8 [a] .full).dis.dis.dis=.slice 8 [a] .no:=by kernel_rfl
theorem o1m (a:List AV):a1D Pg (y_s_api_Ty:TypeId) (AV.slice 4 [a] .full).dis.dis.dis=.slice 4 [a] .no:=by kernel_rfl
theorem h2C {z n:Nat} (hN:n+1<2147483648) (ih:∀m,m<n+1→PE z m) {l:List Tok} {d:Nat} (hg:Gd l) (hd:0<d) (hn:8*l.length+1≤n+1) (hB:d+(n+1)<BIG):RC expV (f1r z (n+1) l) z d a1v [.ptr 0 0] (rH l z d):=by
 have I:=ih n (Nat.lt_succ_self n)
 generalize hX:f1r z (n+1) l=X
 rw[f1r] at hX
 refine i1C (b1g (z1u ..) (a1t ?_))
 refine h1P (g1O l z d 4) (fun h4=>?_) (fun h4=>?_)
 ·rw[if_pos h4] at hX
  cases l with
  |nil=>cases h4
  |cons t r=>exact⟨_,_,_,_,row0,cut1,c1i (a:=.int (num (t::r))) (l:=r) (by rw[←hX];rfl) hg.tail (j2x _).symm⟩
 rw[if_neg (by rw[h4];decide)] at hX
 refine c1c (b1G l z d _) (fun hw=>?_) (fun hw=>?_)
 ·
  have hw1:isW wLet l=true:=hw
  rw[if_pos hw1] at hX
  have hl:=b1k hw1
  refine a1j (h2B ..) (l1r (fun s:Nat×List Dec×List Tok=>⟨tm2 109 [(0,(.ptr 0 0)),(2,(.lp 2 0 0)),(4,(.lp 4 0 0))],lm2 109 [(2,(0,[vI 0,vI 0,vI 0,S0,S0,S0,S0,S0])),(4,(0,w1l s.2.1))],⟨[hp5 (tks s.2.2) z 0 0 d],[],.none,1⟩⟩)
   (fun s=>X=((i1g z s.1 s.2.1 s.2.2).bind fun ds r=>(need z wIn r).bind fun _ r=>(pExp z n r).bind fun x r=>(need z wEnd r).bind fun _ r=>.ok (.lets ds x) r)∧8*s.2.2.length+2≤s.1∧s.1≤n∧Gd s.2.2∧s.2.1.length+s.2.2.length≤l.length∧s.2.2.length≤l.tail.length) (fun s=>s.2.2.length) (n,[],l.tail) (by kernel_rfl) ⟨hX.symm,by simp only;omega,Nat.le_refl _,hg.tail,by simp only[List.length_nil];omega,Nat.le_refl _⟩ ?_)
  rintro ⟨k,ds,m⟩ ⟨hF,hk,hkn,hgm,hlen,hlm⟩
  dsimp only at hF hk hkn hgm hlen hlm⊢
  cases k with
  |zero=>omega
  |succ k=>
  have I2:=ih k (by omega)
  rw[i1g] at hF
  cases ds with
  |nil=>
   refine b1g (w1y ..) ⟨_,i1D m z d _,a1d (fun h1=>?a) (fun h1=>⟨_,i1D m z d _,a1d (fun h2=>?b) (fun h2=>?c)⟩)⟩
   case c=>
    have h1:isW wVal m=false:=h1
    have h2:isW wFun m=false:=h2
    rw[if_neg (by rw[h1,h2];decide)] at hF
    simp only[Res.bind] at hF
    refine a1h (c1V (c1n hgm hd (by omega)) (fun u q2 hF2 hg5=>?_) (fun e p q2 hF2 he=>a1h (b1o (by have h':need z wIn m=.no e p:=hF2;rw[hF,h']) he)))
    have hF2':need z wIn m=.ok u q2:=hF2
    have hl5:=c1H hF2'
    rw[hF2'] at hF;simp only at hF
    refine e1b (c1Y hd (I.Exp hg5 (by omega) (by omega))) (fun y q3 hF3 hg6=>?_) (fun e p q3 hF3 he=>a1h (b1o (by rw[hF,hF3]) he))
    rw[hF3] at hF;simp only at hF
    refine c1V (c1n hg6 hd (by omega)) (fun u q4 hF4 hg7=>a1h (c1i (a:=.lets [] y) (l:=q4) (by have h':need z wEnd q3=.ok u q4:=hF4;rw[hF,h']) hg7 ?_)) (fun e p q4 hF4 he=>a1h (b1o (by have h':need z wEnd q3=.no e p:=hF4;rw[hF,h']) he))
    rw[x1I];rfl
   all_goals
    have hb:(isW wVal m||isW wFun m)=true:=by
     first
      |(have h1:isW wVal m=true:=h1;simp [h1];done)
      |(have h2:isW wFun m=true:=h2;simp [h2];done)
    rw[if_pos hb] at hF
    refine g2t (c1Y hd (I2.Dec hgm (by omega) (by omega))) (fun dd q hF1 hg2=>?_) (fun e p q hF1 he=>a1h (a1h (b1o (by rw[hF,hF1];rfl) he)))
    have hl2:=(lenE z k).dec _ _ hF1
    rw[hF1] at hF;simp only[Res.bind] at hF
    refine a1e ⟨(k,[dd],q),⟨⟨hF,by simp only;omega,by simp only;omega,hg2,by simp only[List.length_cons,List.length_nil];omega,by simp only;omega⟩,by simp only;omega⟩,?_⟩
    simp only[w1l,dsR,j1h,avss,m1T]
  |cons b ds=>
   have hln:(dsR (b::ds)).length+1≤2147483648:=by rw[h2A];omega
   refine b1g (w1z ..) ⟨_,i1D m z d _,a1d (fun h1=>?a2) (fun h1=>⟨_,i1D m z d _,a1d (fun h2=>?b2) (fun h2=>?c2)⟩)⟩
   case c2=>
    have h1:isW wVal m=false:=h1
    have h2:isW wFun m=false:=h2
    rw[if_neg (by rw[h1,h2];decide)] at hF
    simp only[Res.bind] at hF
    refine a1h (c1V (c1n hgm hd (by omega)) (fun u q2 hF2 hg5=>?_) (fun e p q2 hF2 he=>a1h (b1o (by have h':need z wIn m=.no e p:=hF2;rw[hF,h']) he)))
    have hF2':need z wIn m=.ok u q2:=hF2
    have hl5:=c1H hF2'
    rw[hF2'] at hF;simp only at hF
    refine e1b (c1Y hd (I.Exp hg5 (by omega) (by omega))) (fun y q3 hF3 hg6=>?_) (fun e p q3 hF3 he=>a1h (b1o (by rw[hF,hF3]) he))
    rw[hF3] at hF;simp only at hF
    refine c1V (c1n hg6 hd (by omega)) (fun u q4 hF4 hg7=>a1h (c1i (a:=.lets (b::ds) y) (l:=q4) (by have h':need z wEnd q3=.ok u q4:=hF4;rw[hF,h']) hg7 ?_)) (fun e p q4 hF4 he=>a1h (b1o (by have h':need z wEnd q3=.no e p:=hF4;rw[hF,h']) he))
    rw[x1I]
   all_goals
    have hb:(isW wVal m||isW wFun m)=true:=by
     first
      |(have h1:isW wVal m=true:=h1;simp [h1];done)
      |(have h2:isW wFun m=true:=h2;simp [h2];done)
    rw[if_pos hb] at hF
    refine g2t (c1Y hd (I2.Dec hgm (by omega) (by omega))) (fun dd q hF1 hg2=>⟨f2s hln,?_⟩) (fun e p q hF1 he=>a1h (a1h (b1o (by rw[hF,hF1];rfl) he)))
    have hl2:=(lenE z k).dec _ _ hF1
    rw[hF1] at hF;simp only[Res.bind] at hF
    refine a1e ⟨(k,(b::ds)++[dd],q),⟨⟨hF,by simp only;omega,by simp only;omega,hg2,by simp only[List.length_append,List.length_cons,List.length_nil] at hlen⊢;omega,by simp only;omega⟩,by simp only;omega⟩,?_⟩
    simp only[u1N]
 have hw1:isW wLet l=false:=hw
 rw[if_neg (by rw[hw1];decide)] at hX
 refine c1c (b1G l z d _) (fun hw=>?_) (fun hw=>?_)
 ·
  have hw2:isW q1H l=true:=hw
  rw[if_pos hw2] at hX
  have hl:=b1k hw2
  refine e1b (F:=brF z n l.tail) (I.br hg.tail hd (by omega) (by omega)) (fun x r hF hg1=>a1h (c1i (a:=x) (l:=r) (by rw[←hX,←hF];rfl) hg1 (c1p x))) (fun e p r hF he=>a1h (b1o (by rw[←hX,←hF];rfl) he))
 have hw2:isW q1H l=false:=hw
 rw[if_neg (by rw[hw2];decide)] at hX
 refine c1c (b1G l z d _) (fun hw=>a1h (by exact c1i (a:=.tru) (l:=l.tail) (by rw[←hX];exact if_pos hw) hg.tail j2y.symm)) (fun hw3=>?_)
 have hw3:isW l1Z l=false:=hw3
 rw[if_neg (by rw[hw3];decide)] at hX
 refine c1c (b1G l z d _) (fun hw=>a1h (by exact c1i (a:=.fls) (l:=l.tail) (by rw[←hX];exact if_pos hw) hg.tail j2z.symm)) (fun hw4=>?_)
 have hw4:isW h1M l=false:=hw4
 rw[if_neg (by rw[hw4];decide)] at hX
 refine h1P (g1O l z d 1) (fun h5=>?_) (fun h5=>?_)
 ·rw[if_pos (by rw[h5];rfl)] at hX
  refine s1w (p1H (b:=true) (b1:=true) hg hd (by omega)) (fun x r hF hg1=>?_) (fun e p r hF he=>a1h (b1o (by rw[←hX,hF];rfl) he))
  rw[hF] at hX;simp only[Res.bind] at hX
  exact a1d (fun hb=>a1h (c1i (a:=.var x.1) (l:=r) (by rw[←hX,if_pos hb]) hg1 (g2u _).symm)) (fun hb=>a1h (c1i (a:=.con x.1) (l:=r) (by rw[←hX,if_neg (by rw[hb];decide)]) hg1 (g2v _).symm))
 refine h1P (g1O l z d 2) (fun h6=>?_) (fun h6=>?_)
 ·rw[if_pos (by rw[h5,h6];rfl)] at hX
  refine s1w (p1H (b:=true) (b1:=true) hg hd (by omega)) (fun x r hF hg1=>?_) (fun e p r hF he=>a1h (b1o (by rw[←hX,hF];rfl) he))
  rw[hF] at hX;simp only[Res.bind] at hX
  exact a1d (fun hb=>a1h (c1i (a:=.var x.1) (l:=r) (by rw[←hX,if_pos hb]) hg1 (g2u _).symm)) (fun hb=>a1h (c1i (a:=.con x.1) (l:=r) (by rw[←hX,if_neg (by rw[hb];decide)]) hg1 (g2v _).symm))
 rw[if_neg (by rw[h5,h6];decide)] at hX
 refine a1e (b1g (u1Z ..) (c1V (c1n hg hd (by omega)) (fun u r hF hg1=>?_) (fun e p r hF he=>b1o (by have hF':need z wOpen l=.no e p:=hF;rw[←hX,hF'];rfl) he)))
 have hF':need z wOpen l=.ok u r:=hF
 have hl:=c1H hF'
 rw[hF'] at hX
 simp only[Res.bind] at hX
 refine c1c (b1G r z d _) (fun hw=>by exact c1i (a:=.unit) (l:=r.tail) (by rw[←hX];exact if_pos hw) hg1.tail h2F.symm) (fun hw5=>?_)
 have hw5:isW wClose r=false:=hw5
 rw[if_neg (by rw[hw5];decide)] at hX
 refine e1b (c1Y hd (I.Exp hg1 (by omega) (by omega))) (fun p r1 hF1 hg2=>a1t ?_) (fun e p r1 hF1 he=>b1o (by rw[←hX,hF1]) he)
 rw[hF1] at hX
 simp only at hX
 have hl1:=(lenE z n).exp _ _ hF1
 refine c1c (b1G r1 z d _) (fun hw=>?_) (fun hw=>?_)
 ·have hw6:isW wComma r1=true:=hw
  rw[if_pos hw6] at hX
  have hl2:=b1k hw6
  refine e1b (c1Y hd (I.Exp hg2.tail (by omega) (by omega))) (fun q r2 hF2 hg3=>a1e (b1g (k1i ..) ?_)) (fun e p r2 hF2 he=>a1h (b1o (by rw[←hX,hF2]) he))
  rw[hF2] at hX
  simp only at hX
  refine c1V (c1n hg3 hd (by omega)) (fun u2 r3 hF3 hg4=>c1i (a:=.pair p q) (l:=r3) ?_ hg4 ?_) (fun e p r3 hF3 he=>b1o ?_ he)
  ·have hF3':need z wClose r2=.ok u2 r3:=hF3
   rw[←hX,hF3']
  ·rw[h1Q,m1c,o1n,m1d,j1m,h2G,b1C p,b1C q]
  ·have hF3':need z wClose r2=.no e p:=hF3
   rw[←hX,hF3']
 have hw6:isW wComma r1=false:=hw
 rw[if_neg (by rw[hw6];decide)] at hX
 refine c1c (b1G r1 z d _) (fun hw=>?_) (fun hw=>?_)
 ·have hw7:isW p1v r1=true:=hw
  rw[if_pos hw7] at hX
  have hl2:=b1k hw7
  refine w1k (c1Y hd ((u1P z n).Ty hg2.tail (by omega) (by omega))) (fun q r2 hF2 hg3=>a1e (b1g (k1i ..) ?_)) (fun e p r2 hF2 he=>a1h (b1o (by rw[←hX,hF2]) he))
  rw[hF2] at hX
  simp only at hX
  refine c1V (c1n hg3 hd (by omega)) (fun u2 r3 hF3 hg4=>c1i (a:=.ann p q) (l:=r3) ?_ hg4 ?_) (fun e p r3 hF3 he=>b1o ?_ he)
  ·have hF3':need z wClose r2=.ok u2 r3:=hF3
   rw[←hX,hF3']
  ·rw[h1Q,m1c,f2d,m1d,o1m,j2C,b1C p,g1s q]
  ·have hF3':need z wClose r2=.no e p:=hF3
   rw[←hX,hF3']
 have hw7:isW p1v r1=false:=hw
 rw[if_neg (by rw[hw7];decide)] at hX
 refine a1e (b1g (k1i ..) (c1V (c1n hg2 hd (by omega)) (fun u2 r3 hF3 hg4=>c1i (a:=p) (l:=r3) ?_ hg4 ?_) (fun e p r3 hF3 he=>b1o ?_ he)))
 ·have hF3':need z wClose r1=.ok u2 r3:=hF3
  rw[←hX,hF3']
 ·rw[m1R,m1S,p1K,p1L,p1M,←c1p p]
 ·have hF3':need z wClose r1=.no e p:=hF3
  rw[←hX,hF3']
end Go.Proofs
end

section
/- TREES: words for what recurs in printed trees (by ktz.py) -/
set_option linter.unusedVariables false
open Go Go.Eng
open IntKind (wrap)
namespace Go.Proofs
end Go.Proofs
end

section
/- TREES: words for what recurs in printed trees (by ktz.py) -/
set_option linter.unusedVariables false
open Go Go.Eng
open IntKind (wrap)
namespace Go.Proofs
abbrev znF0:AV:=.iface a1p (.agg [])
abbrev znb4:ByteArray:=⟨#[]⟩
abbrev znb3:ByteArray:=⟨#[61]⟩
abbrev znb2:ByteArray:=⟨#[102,117,110]⟩
abbrev znb1:ByteArray:=⟨#[58]⟩
abbrev znb0:ByteArray:=⟨#[118,97,108]⟩
abbrev znR6 (K:List (List AV)→List (List AV)→List (List AV)→List (List AV)→List (List AV)→List (List AV)→KT):KT:=.exR fun v0=>.exR fun v1=>.exR fun v2=>.exR fun v3=>.exR fun v4=>.exR fun v5=>K v0 v1 v2 v3 v4 v5
abbrev znR3 (K:List (List AV)→List (List AV)→List (List AV)→KT):KT:=.exR fun v0=>.exR fun v1=>.exR fun v2=>K v0 v1 v2
abbrev znI6 (K:Int→Int→Int→Int→Int→Int→KT):KT:=.exI fun v0=>.exI fun v1=>.exI fun v2=>.exI fun v3=>.exI fun v4=>.exI fun v5=>K v0 v1 v2 v3 v4 v5
abbrev znI4 (K:Int→Int→Int→Int→KT):KT:=.exI fun v0=>.exI fun v1=>.exI fun v2=>.exI fun v3=>K v0 v1 v2 v3
abbrev znI3 (K:Int→Int→Int→KT):KT:=.exI fun v0=>.exI fun v1=>.exI fun v2=>K v0 v1 v2
abbrev znI2 (K:Int→Int→KT):KT:=.exI fun v0=>.exI fun v1=>K v0 v1
abbrev znE:AV:=.slice 0 [] .full
abbrev znN (n:Nat) (l:List (List AV)):AV:=.slice n l .no
abbrev znP:AV:=.ptr 0 0
abbrev znR (v:AV) (h:Heap):CRes:=⟨.ret v,.none,h⟩
abbrev znQ (v:AV) (h:Heap):CRes:=⟨.panic v,.none,h⟩
abbrev znL (n:Nat) (l:List (List AV)) (k:KT):KT:=.need (lowss n l) k
abbrev znS (n:Nat) (t:List (Nat×AV)) (l:List (Nat×Nat×List AV)) (h:Heap) (k:Nat):St:=⟨tm2 n t,lm2 n l,⟨h,[],.none,k⟩⟩
abbrev zn1 (x0:List (List AV)) (x1 x2 x3 x4:Int):List AV:=[znN 4 x0,vI x1,vI x2,vI x3,vI x4]
abbrev zn2 (x0 x1:Int) (x2:ByteArray) (x3:List (List AV)) (x4:Nat) (x5 x6 x7 x8 x9:List (List AV)):List AV:=[vI x0,vI x1,vS x2,.slice 0 x3 .full,.slice x4 x5 .full,.slice 0 x6 .full,.slice 0 x7 .full,.slice 0 x8 .full,.slice 0 x9 .full]
abbrev zn3 (x0 x1 x2:Int) (x3 x4 x5 x6 x7:List (List AV)):List AV:=[vI x0,vI x1,vI x2,znN 1 x3,znN 5 x4,znN 8 x5,znN 9 x6,znN 4 x7]
abbrev zn4 (x0 x1:Int) (x2:ByteArray) (x3 x4 x5 x6 x7 x8:List (List AV)):List AV:=[vI x0,vI x1,vS x2,.slice 0 x3 .full,.slice 0 x4 .full,.slice 0 x5 .full,.slice 0 x6 .full,.slice 0 x7 .full,.slice 0 x8 .full]
abbrev zn5 (x0 x1:Int) (x2:ByteArray) (x3:List (List AV)) (x4:Nat) (x5 x6 x7 x8 x9:List (List AV)):List AV:=[vI x0,vI x1,vS x2,.slice 1 x3 .full,.slice x4 x5 .full,.slice 0 x6 .full,.slice 0 x7 .full,.slice 0 x8 .full,.slice 0 x9 .full]
abbrev zn6 (x0 x1:Int) (x2:ByteArray) (x3:List (List AV)) (x4:Nat) (x5 x6 x7 x8 x9:List (List AV)):List AV:=[vI x0,vI x1,vS x2,.slice 1 x3 .yes,.slice x4 x5 .full,.slice 0 x6 .full,.slice 0 x7 .full,.slice 0 x8 .full,.slice 0 x9 .full]
abbrev zn8 (g:FuncId) (a:List AV) (h:Heap) (K:List (List AV)→Int→Int→Int→Int→KT):KT:=.exR fun v0=>.exI fun v1=>.exI fun v2=>.exI fun v3=>.exI fun v4=>.call g a .none h ⟨.panic znF0,.none,[[znN 4 v0,vI v1,vI v2,vI v3,vI v4]]⟩ (K v0 v1 v2 v3 v4)
abbrev zn9 (x0:Int) (x1:ByteArray) (x2 x3:List (List AV)):List AV:=[vI x0,vS x1,znN 1 x2,znN 4 x3]
abbrev zn10 (g:FuncId) (a:List AV) (h:Heap) (K:ByteArray→List (List AV)→Int→Int→Int→Int→KT) (L:List (List AV)→Int→Int→Int→Int→KT):KT:=.alt (.exS fun v0=>.exR fun v1=>.exI fun v2=>.exI fun v3=>.exI fun v4=>.exI fun v5=>.call g a .none h ⟨.ret (vS v0),.none,[[znN 4 v1,vI v2,vI v3,vI v4,vI v5]]⟩ (K v0 v1 v2 v3 v4 v5)) (.exR fun v0=>.exI fun v1=>.exI fun v2=>.exI fun v3=>.exI fun v4=>.call g a .none h ⟨.panic znF0,.none,[[znN 4 v0,vI v1,vI v2,vI v3,vI v4]]⟩ (L v0 v1 v2 v3 v4))
abbrev zn13:List (List AV)→Int→Int→Int→Int→KT:=fun v0 v1 v2 v3 v4=>.ret ⟨.panic znF0,.none,[[znN 4 v0,vI v1,vI v2,vI v3,vI v4]]⟩
abbrev zn14:List (List AV)→Int→Int→Int→Int→Int→Int→ByteArray→List (List AV)→List (List AV)→List (List AV)→List (List AV)→List (List AV)→List (List AV)→KT:=fun v0 v1 v2 v3 v4 v5 v6 v7 v8 v9 v10 v11 v12 v13=>.need (lowss 1 v8) (.need (lowss 1 v9) (.need (lowss 1 v10) (.need (lowss 1 v11) (.need (lowss 1 v12) (.need (lowss 1 v13) (.need (lowss 1 v0) (.ret ⟨.panic znF0,.none,[[znN 4 v0,vI v1,vI v2,vI v3,vI v4]]⟩)))))))
abbrev zn15 (x0:ByteArray):List AV:=[vI 0,vI 0,vS x0,znE,znE,znE,znE,znE,znE]
abbrev zn16 (x0 x1:Int) (x2:ByteArray) (x3 x4 x5 x6 x7 x8:List (List AV)):List AV:=[vI x0,vI x1,vS x2,.slice 1 x3 .full,.slice 0 x4 .full,.slice 0 x5 .full,.slice 0 x6 .full,.slice 0 x7 .full,.slice 0 x8 .full]
abbrev zn17 (x0 x1:Int) (x2:ByteArray) (x3 x4 x5 x6 x7 x8:List (List AV)):List AV:=[vI x0,vI x1,vS x2,.slice 1 x3 .yes,.slice 0 x4 .full,.slice 0 x5 .full,.slice 0 x6 .full,.slice 0 x7 .full,.slice 0 x8 .full]
abbrev zn18 (x0:Int) (x1:ByteArray) (x2:List (List AV)):List AV:=[vI 2,vI x0,vS x1,.slice 1 x2 .yes,znE,znE,znE,znE,znE]
abbrev zn20 (g:FuncId) (a:List AV) (h:Heap) (x0:Nat) (K:List (List AV)→Int→Int→Int→Int→Int→Int→ByteArray→List (List AV)→List (List AV)→List (List AV)→List (List AV)→List (List AV)→List (List AV)→KT):KT:=.exR fun v0=>.exI fun v1=>.exI fun v2=>.exI fun v3=>.exI fun v4=>.exI fun v5=>.exI fun v6=>.exS fun v7=>.exR fun v8=>.exR fun v9=>.exR fun v10=>.exR fun v11=>.exR fun v12=>.exR fun v13=>.call g a .none h ⟨.panic znF0,.none,[[znN 4 v0,vI v1,vI v2,vI v3,vI v4],[vI v5,vI v6,vS v7,.slice 0 v8 .full,.slice x0 v9 .full,.slice 0 v10 .full,.slice 0 v11 .full,.slice 0 v12 .full,.slice 0 v13 .full]]⟩ (K v0 v1 v2 v3 v4 v5 v6 v7 v8 v9 v10 v11 v12 v13)
end Go.Proofs
end
