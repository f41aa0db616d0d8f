/- Texts of this proof folded into one: RX16 E32 R11 R12 U10 G15 KZ4 RX20 U11 U12 RX22 Z11 U13. -/
import Derived.Test.YtmdjdcnabbapgaaGreatDoorW15
import Derived.Test.YtmdjdcnabbapgaaGreatDoorW10
import Derived.Test.YtmdjdcnabbapgaaGreatDoorW20
import Derived.Test.YtmdjdcnabbapgaaGreatDoorW19
import Derived.Test.YtmdjdcnabbapgaaGreatDoorW16
import Derived.Test.YtmdjdcnabbapgaaGreatDoorW7
import Derived.Test.YtmdjdcnabbapgaaGreatDoorW6
section
/- TREES, printed by kt.py out of z16.txt -/
open Go Go.Eng
open IntKind (wrap)
namespace Go.Proofs
set_option linter.unusedVariables false
set_option maxRecDepth 100000
@[irreducible] noncomputable def v1d:KT:=((((((((((((((((((((((((((((((((((((((((kt5 a1B [.ptr 0 0] [[.slice 4 [[vI 0,vS ⟨#[]⟩,vI 0,vI 0]] .no,vI 0,vI 0,vI 0,vI 0]]).F).I 0).S ⟨#[]⟩).I 0).I 0).T).T).B false).R []).I 0).I 0).I 0).I 0).T).F).T).R []).I 0).I 0).I 0).I 0).T).T).S ⟨#[]⟩).R []).I 0).I 0).I 0).I 0).T).T).T).S ⟨#[]⟩).R []).I 0).I 0).I 0).I 0).T).T
@[irreducible] noncomputable def c2C (z d:Int):KT:=kt5 a1B [AV.ptr 0 0] [[AV.slice 4 [] Own.no,vI z,vI 0,vI 0,vI d]]
theorem z1v (z d):(kt5 a1B [AV.ptr 0 0] [[AV.slice 4 [] Own.no,vI z,vI 0,vI 0,vI d]]).prune (PH.of 30959451048302722711980307049331)=
 .exB fun b=>.exR fun l=>znI4 fun i i1 i2 i3=>.call a1g [znP,vS znb0] .none [[znN 4 [],vI z,vI 0,vI 0,vI d]] (znR (vB b) [zn1 l i i1 i2 i3]) (.branch b (zn10 a1y [znP,vI 1] [zn1 l i i1 i2 i3] (fun s l1 i4 i5 i6 i7=>.stage (.exB fun b1=>.exR fun l2=>znI6 fun i8 i9 i10 i11 i12 i13=>.exS fun s1=>znR6 fun l3 l4 l5 l6 l7 l8=>.call a1g [znP,vS znb1] .none [zn1 l1 i4 i5 i6 i7,[vI 1,vI z,vS s,znE,znE,znE,znE,znE,znE]] (znR (vB b1) [zn1 l2 i8 i9 i10 i11,zn4 i12 i13 s1 l3 l4 l5 l6 l7 l8]) (.branch b1 (.alt (.exI fun i14=>.exS fun s2=>znR3 fun l9 l10 l11=>znI6 fun i15 i16 i17 i18 i19 i20=>.exS fun s3=>znR6 fun l12 l13 l14 l15 l16 l17=>.call a1o [znP] .none [zn1 l2 i8 i9 i10 i11,zn4 i12 i13 s1 l3 l4 l5 l6 l7 l8] (znR (.agg (zn9 i14 s2 l9 l10)) [zn1 l11 i15 i16 i17 i18,zn4 i19 i20 s3 l12 l13 l14 l15 l16 l17]) (.done (znS 20 [(0,znP),(1,.ptr 1 0)] [] [zn1 l11 i15 i16 i17 i18,[vI i19,vI i20,vS s3,.slice 0 l12 .full,.slice 4 [zn9 i14 s2 l9 l10] .full,.slice 0 l14 .full,.slice 0 l15 .full,.slice 0 l16 .full,.slice 0 l17 .full]] 2))) (.exR fun l9=>znI6 fun i14 i15 i16 i17 i18 i19=>.exS fun s2=>znR6 fun l10 l11 l12 l13 l14 l15=>.call a1o [znP] .none [zn1 l2 i8 i9 i10 i11,zn4 i12 i13 s1 l3 l4 l5 l6 l7 l8] (znQ znF0 [zn1 l9 i14 i15 i16 i17,zn4 i18 i19 s2 l10 l11 l12 l13 l14 l15]) (.out (znL 1 l10 (znL 1 l11 (znL 1 l12 (znL 1 l13 (znL 1 l14 (znL 1 l15 (znL 1 l9 (.ret (znQ znF0 [zn1 l9 i14 i15 i16 i17])))))))))))) (.done (znS 20 [(0,znP),(1,.ptr 1 0)] [] [zn1 l2 i8 i9 i10 i11,zn4 i12 i13 s1 l3 l4 l5 l6 l7 l8] 2)))) ((((((((((((((c2C z d).T.T.B b).R l).I i).I i1).I i2).I i3).T.T.T.S s).R l1).I i4).I i5).I i6).I i7).T.T.K)) zn13) (.alt (.exR fun l1=>znI4 fun i4 i5 i6 i7=>.call a1f [znP,vS znb2] .none [zn1 l i i1 i2 i3] (znR (.tuple []) [zn1 l1 i4 i5 i6 i7]) (zn10 a1y [znP,vI 1] [zn1 l1 i4 i5 i6 i7] (fun s l2 i8 i9 i10 i11=>zn10 a1y [znP,vI 1] [zn1 l2 i8 i9 i10 i11] (fun s1 l3 i12 i13 i14 i15=>((((((((((((((((((((((((c2C z d).T.T.B b).R l).I i).I i1).I i2).I i3).T.F.T.R l1).I i4).I i5).I i6).I i7).T.T.S s).R l2).I i8).I i9).I i10).I i11).T.T.T.S s1).R l3).I i12).I i13).I i14).I i15).T.T) zn13) zn13)) (zn8 a1f [znP,vS znb2] [zn1 l i i1 i2 i3] zn13))):=by kernel_rfl
@[irreducible] noncomputable def w1A (k:Int) (s:ByteArray) (n m:Int) (l:List (List AV)) (z d:Int):KT:=kt5 a1B [AV.ptr 0 0] [[AV.slice 4 ([vI k,vS s,vI n,vI m]::l) Own.no,vI z,vI 0,vI 0,vI d]]
theorem z1w (k) (s:ByteArray) (n m l z d):(kt5 a1B [AV.ptr 0 0] [[AV.slice 4 ([vI k,vS s,vI n,vI m]::l) Own.no,vI z,vI 0,vI 0,vI d]]).prune (PH.of 30959451048302722711980307049332)=
 .exI fun i=>.exS fun s1=>znI2 fun i1 i2=>.row ([vI k,vS s,vI n,vI m]::l) 0 [vI i,vS s1,vI i1,vI i2] (.exB fun b=>.exR fun l1=>znI4 fun i3 i4 i5 i6=>.call a1g [znP,vS znb0] .none [[znN 4 ([vI k,vS s,vI n,vI m]::l),vI z,vI 0,vI 0,vI d]] (znR (vB b) [zn1 l1 i3 i4 i5 i6]) (.branch b (zn10 a1y [znP,vI 1] [zn1 l1 i3 i4 i5 i6] (fun s2 l2 i7 i8 i9 i10=>.stage (.exB fun b1=>.exR fun l3=>znI6 fun i11 i12 i13 i14 i15 i16=>.exS fun s3=>znR6 fun l4 l5 l6 l7 l8 l9=>.call a1g [znP,vS znb1] .none [zn1 l2 i7 i8 i9 i10,[vI 1,vI i2,vS s2,znE,znE,znE,znE,znE,znE]] (znR (vB b1) [zn1 l3 i11 i12 i13 i14,zn4 i15 i16 s3 l4 l5 l6 l7 l8 l9]) (.branch b1 (.alt (.exI fun i17=>.exS fun s4=>znR3 fun l10 l11 l12=>znI6 fun i18 i19 i20 i21 i22 i23=>.exS fun s5=>znR6 fun l13 l14 l15 l16 l17 l18=>.call a1o [znP] .none [zn1 l3 i11 i12 i13 i14,zn4 i15 i16 s3 l4 l5 l6 l7 l8 l9] (znR (.agg (zn9 i17 s4 l10 l11)) [zn1 l12 i18 i19 i20 i21,zn4 i22 i23 s5 l13 l14 l15 l16 l17 l18]) (.done (znS 20 [(0,znP),(1,.ptr 1 0)] [] [zn1 l12 i18 i19 i20 i21,[vI i22,vI i23,vS s5,.slice 0 l13 .full,.slice 4 [zn9 i17 s4 l10 l11] .full,.slice 0 l15 .full,.slice 0 l16 .full,.slice 0 l17 .full,.slice 0 l18 .full]] 2))) (.exR fun l10=>znI6 fun i17 i18 i19 i20 i21 i22=>.exS fun s4=>znR6 fun l11 l12 l13 l14 l15 l16=>.call a1o [znP] .none [zn1 l3 i11 i12 i13 i14,zn4 i15 i16 s3 l4 l5 l6 l7 l8 l9] (znQ znF0 [zn1 l10 i17 i18 i19 i20,zn4 i21 i22 s4 l11 l12 l13 l14 l15 l16]) (.out (znL 1 l11 (znL 1 l12 (znL 1 l13 (znL 1 l14 (znL 1 l15 (znL 1 l16 (znL 1 l10 (.ret (znQ znF0 [zn1 l10 i17 i18 i19 i20])))))))))))) (.done (znS 20 [(0,znP),(1,.ptr 1 0)] [] [zn1 l3 i11 i12 i13 i14,zn4 i15 i16 s3 l4 l5 l6 l7 l8 l9] 2)))) ((((((((((((((((((w1A k s n m l z d).F.I i).S s1).I i1).I i2).T.T.B b).R l1).I i3).I i4).I i5).I i6).T.T.T.S s2).R l2).I i7).I i8).I i9).I i10).T.T.K)) zn13) (.alt (.exR fun l2=>znI4 fun i7 i8 i9 i10=>.call a1f [znP,vS znb2] .none [zn1 l1 i3 i4 i5 i6] (znR (.tuple []) [zn1 l2 i7 i8 i9 i10]) (zn10 a1y [znP,vI 1] [zn1 l2 i7 i8 i9 i10] (fun s2 l3 i11 i12 i13 i14=>zn10 a1y [znP,vI 1] [zn1 l3 i11 i12 i13 i14] (fun s3 l4 i15 i16 i17 i18=>((((((((((((((((((((((((((((w1A k s n m l z d).F.I i).S s1).I i1).I i2).T.T.B b).R l1).I i3).I i4).I i5).I i6).T.F.T.R l2).I i7).I i8).I i9).I i10).T.T.S s2).R l3).I i11).I i12).I i13).I i14).T.T.T.S s3).R l4).I i15).I i16).I i17).I i18).T.T) zn13) zn13)) (zn8 a1f [znP,vS znb2] [zn1 l1 i3 i4 i5 i6] zn13)))):=by kernel_rfl
theorem n1J (k) (s:ByteArray) (n m l z d i) (s1:ByteArray) (i1 i2) (b:Bool) (l1 i3 i4 i5 i6) (s2:ByteArray) (l2 i7 i8 i9 i10 q1x0 q1x1 q1x2 q1x3 q1x4 q1x5 q1x6) (q1x7:ByteArray) (q1x8) (q1x9:Nat) (q1x10 q1x11 q1x12 q1x13 q1x14):((((((((((((((((((w1A k s n m l z d).F.I i).S s1).I i1).I i2).T.T.B b).R l1).I i3).I i4).I i5).I i6).T.T.T.S s2).R l2).I i7).I i8).I i9).I i10).T.T.K (znS 20 [(0,znP),(1,.ptr 1 0)] [] [zn1 q1x0 q1x1 q1x2 q1x3 q1x4,zn2 q1x5 q1x6 q1x7 q1x8 q1x9 q1x10 q1x11 q1x12 q1x13 q1x14] 2)).prune (PH.of 8665580135494159736942624685)=
 .alt (.exR fun l3=>znI6 fun i11 i12 i13 i14 i15 i16=>.exS fun s3=>znR6 fun l4 l5 l6 l7 l8 l9=>.call a1f [znP,vS znb3] .none [zn1 q1x0 q1x1 q1x2 q1x3 q1x4,zn2 q1x5 q1x6 q1x7 q1x8 q1x9 q1x10 q1x11 q1x12 q1x13 q1x14] (znR (.tuple []) [zn1 l3 i11 i12 i13 i14,zn2 i15 i16 s3 l4 q1x9 l5 l6 l7 l8 l9]) (.alt (znI3 fun i17 i18 i19=>znR6 fun l10 l11 l12 l13 l14 l15=>znI6 fun i20 i21 i22 i23 i24 i25=>.exS fun s4=>znR6 fun l16 l17 l18 l19 l20 l21=>.call a1i [znP] .none [zn1 l3 i11 i12 i13 i14,zn2 i15 i16 s3 l4 q1x9 l5 l6 l7 l8 l9] (znR (.agg (zn3 i17 i18 i19 l10 l11 l12 l13 l14)) [zn1 l15 i20 i21 i22 i23,zn2 i24 i25 s4 l16 q1x9 l17 l18 l19 l20 l21]) (znL 1 l16 (znL 1 l17 (znL 1 [zn3 i17 i18 i19 l10 l11 l12 l13 l14] (znL 1 l19 (znL 1 l20 (znL 1 l21 (znL 1 l15 (.ret (znR (.agg [vI i24,vI i25,vS s4,(a1D Pg (y_s_string:TypeId) (AV.slice 0 l16 Own.full).dis.dis.dis),(a1D Pg (y_s_api_Ty:TypeId) (AV.slice q1x9 l17 Own.full).dis.dis.dis),znN 8 [zn3 i17 i18 i19 l10 l11 l12 l13 l14],(a1D Pg (y_s_api_Con:TypeId) (AV.slice 0 l19 Own.full).dis.dis.dis),(a1D Pg (y_s_api_Mod:TypeId) (AV.slice 0 l20 Own.full).dis.dis.dis),(a1D Pg (y_s_api_Sig:TypeId) (AV.slice 0 l21 Own.full).dis.dis.dis)]) [zn1 l15 i20 i21 i22 i23])))))))))) (zn20 a1i [znP] [zn1 l3 i11 i12 i13 i14,zn2 i15 i16 s3 l4 q1x9 l5 l6 l7 l8 l9] q1x9 zn14))) (zn20 a1f [znP,vS znb3] [zn1 q1x0 q1x1 q1x2 q1x3 q1x4,zn2 q1x5 q1x6 q1x7 q1x8 q1x9 q1x10 q1x11 q1x12 q1x13 q1x14] q1x9 zn14):=by kernel_rfl
@[irreducible] noncomputable def c2D (nm:ByteArray) (an:Int) (q:List AV) (mm:List (List AV)) (z' x y d':Int):KT:=KT.round Pg cfg0 rs0 kc5 v1d (znS 38 [(0,znP),(2,.lp 2 0 0),(5,.lp 5 0 0)] [(2,0,zn15 znb4),(5,0,[vI 2,vI an,vS nm,.slice 1 [q] .full,znE,znE,znE,znE,znE])] [zn1 mm z' x y d'] 1)
theorem z1x (nm:ByteArray) (an q mm z' x y d'):(KT.round Pg cfg0 rs0 kc5 v1d (znS 38 [(0,znP),(2,.lp 2 0 0),(5,.lp 5 0 0)] [(2,0,zn15 znb4),(5,0,[vI 2,vI an,vS nm,.slice 1 [q] .full,znE,znE,znE,znE,znE])] [zn1 mm z' x y d'] 1)).prune (PH.of 1008806300107869613)=
 .exB fun b=>.call a1l [znP,vI 1] .none [zn1 mm z' x y d'] (znR (vB b) [zn1 mm z' x y d']) (.branch b (zn10 a1y [znP,vI 1] [zn1 mm z' x y d'] (fun s l i i1 i2 i3=>.done (znS 38 [(0,znP),(2,.lp 2 0 0),(5,.lp 5 0 0)] [(2,0,zn15 znb4),(5,0,zn18 an nm [q,[(vS s)]])] [zn1 l i i1 i2 i3] 1)) (fun l i i1 i2 i3=>.out (.ret (znQ znF0 [zn1 l i i1 i2 i3])))) (.out (.stage (.exB fun b1=>.exR fun l=>znI6 fun i i1 i2 i3 i4 i5=>.exS fun s=>znR6 fun l1 l2 l3 l4 l5 l6=>.call a1g [znP,vS znb1] .none [zn1 mm z' x y d',[vI 2,vI an,vS nm,.slice 1 [q] .full,znE,znE,znE,znE,znE]] (znR (vB b1) [zn1 l i i1 i2 i3,zn16 i4 i5 s l1 l2 l3 l4 l5 l6]) (.branch b1 (.alt (.exI fun i6=>.exS fun s1=>znR3 fun l7 l8 l9=>znI6 fun i7 i8 i9 i10 i11 i12=>.exS fun s2=>znR6 fun l10 l11 l12 l13 l14 l15=>.call a1o [znP] .none [zn1 l i i1 i2 i3,zn16 i4 i5 s l1 l2 l3 l4 l5 l6] (znR (.agg (zn9 i6 s1 l7 l8)) [zn1 l9 i7 i8 i9 i10,zn16 i11 i12 s2 l10 l11 l12 l13 l14 l15]) (.done (znS 20 [(0,znP),(1,.ptr 1 0)] [] [zn1 l9 i7 i8 i9 i10,[vI i11,vI i12,vS s2,.slice 1 l10 .full,.slice 4 [zn9 i6 s1 l7 l8] .full,.slice 0 l12 .full,.slice 0 l13 .full,.slice 0 l14 .full,.slice 0 l15 .full]] 2))) (.exR fun l7=>znI6 fun i6 i7 i8 i9 i10 i11=>.exS fun s1=>znR6 fun l8 l9 l10 l11 l12 l13=>.call a1o [znP] .none [zn1 l i i1 i2 i3,zn16 i4 i5 s l1 l2 l3 l4 l5 l6] (znQ znF0 [zn1 l7 i6 i7 i8 i9,zn16 i10 i11 s1 l8 l9 l10 l11 l12 l13]) (.out (znL 1 l8 (znL 1 l9 (znL 1 l10 (znL 1 l11 (znL 1 l12 (znL 1 l13 (znL 1 l7 (.ret (znQ znF0 [zn1 l7 i6 i7 i8 i9])))))))))))) (.done (znS 20 [(0,znP),(1,.ptr 1 0)] [] [zn1 l i i1 i2 i3,zn16 i4 i5 s l1 l2 l3 l4 l5 l6] 2)))) (((c2D nm an q mm z' x y d').B b).T.F.T.K)))):=by kernel_rfl
theorem n1K (nm:ByteArray) (an q mm z' x y d') (b:Bool) (q1x0 q1x1 q1x2 q1x3 q1x4 q1x5 q1x6) (q1x7:ByteArray) (q1x8) (q1x9:Nat) (q1x10 q1x11 q1x12 q1x13 q1x14):(((c2D nm an q mm z' x y d').B b).T.F.T.K (znS 20 [(0,znP),(1,.ptr 1 0)] [] [zn1 q1x0 q1x1 q1x2 q1x3 q1x4,zn5 q1x5 q1x6 q1x7 q1x8 q1x9 q1x10 q1x11 q1x12 q1x13 q1x14] 2)).prune (PH.of 8665580135494159736942624685)=
 .alt (.exR fun l=>znI6 fun i i1 i2 i3 i4 i5=>.exS fun s=>znR6 fun l1 l2 l3 l4 l5 l6=>.call a1f [znP,vS znb3] .none [zn1 q1x0 q1x1 q1x2 q1x3 q1x4,zn5 q1x5 q1x6 q1x7 q1x8 q1x9 q1x10 q1x11 q1x12 q1x13 q1x14] (znR (.tuple []) [zn1 l i i1 i2 i3,zn5 i4 i5 s l1 q1x9 l2 l3 l4 l5 l6]) (.alt (znI3 fun i6 i7 i8=>znR6 fun l7 l8 l9 l10 l11 l12=>znI6 fun i9 i10 i11 i12 i13 i14=>.exS fun s1=>znR6 fun l13 l14 l15 l16 l17 l18=>.call a1i [znP] .none [zn1 l i i1 i2 i3,zn5 i4 i5 s l1 q1x9 l2 l3 l4 l5 l6] (znR (.agg (zn3 i6 i7 i8 l7 l8 l9 l10 l11)) [zn1 l12 i9 i10 i11 i12,zn5 i13 i14 s1 l13 q1x9 l14 l15 l16 l17 l18]) (znL 1 l13 (znL 1 l14 (znL 1 [zn3 i6 i7 i8 l7 l8 l9 l10 l11] (znL 1 l16 (znL 1 l17 (znL 1 l18 (znL 1 l12 (.ret (znR (.agg [vI i13,vI i14,vS s1,znN 1 l13,(a1D Pg (y_s_api_Ty:TypeId) (AV.slice q1x9 l14 Own.full).dis.dis.dis),znN 8 [zn3 i6 i7 i8 l7 l8 l9 l10 l11],(a1D Pg (y_s_api_Con:TypeId) (AV.slice 0 l16 Own.full).dis.dis.dis),(a1D Pg (y_s_api_Mod:TypeId) (AV.slice 0 l17 Own.full).dis.dis.dis),(a1D Pg (y_s_api_Sig:TypeId) (AV.slice 0 l18 Own.full).dis.dis.dis)]) [zn1 l12 i9 i10 i11 i12])))))))))) (.exR fun l7=>znI6 fun i6 i7 i8 i9 i10 i11=>.exS fun s1=>znR6 fun l8 l9 l10 l11 l12 l13=>.call a1i [znP] .none [zn1 l i i1 i2 i3,zn5 i4 i5 s l1 q1x9 l2 l3 l4 l5 l6] (znQ znF0 [zn1 l7 i6 i7 i8 i9,zn5 i10 i11 s1 l8 q1x9 l9 l10 l11 l12 l13]) (znL 1 l8 (znL 1 l9 (znL 1 l10 (znL 1 l11 (znL 1 l12 (znL 1 l13 (znL 1 l7 (.ret (znQ znF0 [zn1 l7 i6 i7 i8 i9])))))))))))) (.exR fun l=>znI6 fun i i1 i2 i3 i4 i5=>.exS fun s=>znR6 fun l1 l2 l3 l4 l5 l6=>.call a1f [znP,vS znb3] .none [zn1 q1x0 q1x1 q1x2 q1x3 q1x4,zn5 q1x5 q1x6 q1x7 q1x8 q1x9 q1x10 q1x11 q1x12 q1x13 q1x14] (znQ znF0 [zn1 l i i1 i2 i3,zn5 i4 i5 s l1 q1x9 l2 l3 l4 l5 l6]) (znL 1 l1 (znL 1 l2 (znL 1 l3 (znL 1 l4 (znL 1 l5 (znL 1 l6 (znL 1 l (.ret (znQ znF0 [zn1 l i i1 i2 i3])))))))))):=by kernel_rfl
@[irreducible] noncomputable def c2E (nm:ByteArray) (an:Int) (ps mm:List (List AV)) (z' x y d':Int):KT:=KT.round Pg cfg0 rs0 kc5 v1d (znS 38 [(0,znP),(2,.lp 2 0 0),(5,.lp 5 0 0)] [(2,0,zn15 znb4),(5,0,zn18 an nm ps)] [zn1 mm z' x y d'] 1)
theorem z1y (nm:ByteArray) (an ps mm z' x y d'):(KT.round Pg cfg0 rs0 kc5 v1d (znS 38 [(0,znP),(2,.lp 2 0 0),(5,.lp 5 0 0)] [(2,0,zn15 znb4),(5,0,zn18 an nm ps)] [zn1 mm z' x y d'] 1)).prune (PH.of 1008806300107870125)=
 .exB fun b=>.call a1l [znP,vI 1] .none [zn1 mm z' x y d'] (znR (vB b) [zn1 mm z' x y d']) (.branch b (zn10 a1y [znP,vI 1] [zn1 mm z' x y d'] (fun s l i i1 i2 i3=>.need ((ps.length+1).ble 2147483648) (.done (znS 38 [(0,znP),(2,.lp 2 0 0),(5,.lp 5 0 0)] [(2,0,zn15 znb4),(5,0,zn18 an nm (ps++[[(vS s)]]))] [zn1 l i i1 i2 i3] 1))) (fun l i i1 i2 i3=>.out (.ret (znQ znF0 [zn1 l i i1 i2 i3])))) (.out (.stage (.exB fun b1=>.exR fun l=>znI6 fun i i1 i2 i3 i4 i5=>.exS fun s=>znR6 fun l1 l2 l3 l4 l5 l6=>.call a1g [znP,vS znb1] .none [zn1 mm z' x y d',zn18 an nm ps] (znR (vB b1) [zn1 l i i1 i2 i3,zn17 i4 i5 s l1 l2 l3 l4 l5 l6]) (.branch b1 (.alt (.exI fun i6=>.exS fun s1=>znR3 fun l7 l8 l9=>znI6 fun i7 i8 i9 i10 i11 i12=>.exS fun s2=>znR6 fun l10 l11 l12 l13 l14 l15=>.call a1o [znP] .none [zn1 l i i1 i2 i3,zn17 i4 i5 s l1 l2 l3 l4 l5 l6] (znR (.agg (zn9 i6 s1 l7 l8)) [zn1 l9 i7 i8 i9 i10,zn17 i11 i12 s2 l10 l11 l12 l13 l14 l15]) (.done (znS 20 [(0,znP),(1,.ptr 1 0)] [] [zn1 l9 i7 i8 i9 i10,[vI i11,vI i12,vS s2,.slice 1 l10 .yes,.slice 4 [zn9 i6 s1 l7 l8] .full,.slice 0 l12 .full,.slice 0 l13 .full,.slice 0 l14 .full,.slice 0 l15 .full]] 2))) (.exR fun l7=>znI6 fun i6 i7 i8 i9 i10 i11=>.exS fun s1=>znR6 fun l8 l9 l10 l11 l12 l13=>.call a1o [znP] .none [zn1 l i i1 i2 i3,zn17 i4 i5 s l1 l2 l3 l4 l5 l6] (znQ znF0 [zn1 l7 i6 i7 i8 i9,zn17 i10 i11 s1 l8 l9 l10 l11 l12 l13]) (.out (znL 1 l8 (znL 1 l9 (znL 1 l10 (znL 1 l11 (znL 1 l12 (znL 1 l13 (znL 1 l7 (.ret (znQ znF0 [zn1 l7 i6 i7 i8 i9])))))))))))) (.done (znS 20 [(0,znP),(1,.ptr 1 0)] [] [zn1 l i i1 i2 i3,zn17 i4 i5 s l1 l2 l3 l4 l5 l6] 2)))) (((c2E nm an ps mm z' x y d').B b).T.F.T.K)))):=by kernel_rfl
theorem n1L (nm:ByteArray) (an ps mm z' x y d') (b:Bool) (q1x0 q1x1 q1x2 q1x3 q1x4 q1x5 q1x6) (q1x7:ByteArray) (q1x8) (q1x9:Nat) (q1x10 q1x11 q1x12 q1x13 q1x14):(((c2E nm an ps mm z' x y d').B b).T.F.T.K (znS 20 [(0,znP),(1,.ptr 1 0)] [] [zn1 q1x0 q1x1 q1x2 q1x3 q1x4,zn6 q1x5 q1x6 q1x7 q1x8 q1x9 q1x10 q1x11 q1x12 q1x13 q1x14] 2)).prune (PH.of 8665580135494159736942624685)=
 .alt (.exR fun l=>znI6 fun i i1 i2 i3 i4 i5=>.exS fun s=>znR6 fun l1 l2 l3 l4 l5 l6=>.call a1f [znP,vS znb3] .none [zn1 q1x0 q1x1 q1x2 q1x3 q1x4,zn6 q1x5 q1x6 q1x7 q1x8 q1x9 q1x10 q1x11 q1x12 q1x13 q1x14] (znR (.tuple []) [zn1 l i i1 i2 i3,zn6 i4 i5 s l1 q1x9 l2 l3 l4 l5 l6]) (.alt (znI3 fun i6 i7 i8=>znR6 fun l7 l8 l9 l10 l11 l12=>znI6 fun i9 i10 i11 i12 i13 i14=>.exS fun s1=>znR6 fun l13 l14 l15 l16 l17 l18=>.call a1i [znP] .none [zn1 l i i1 i2 i3,zn6 i4 i5 s l1 q1x9 l2 l3 l4 l5 l6] (znR (.agg (zn3 i6 i7 i8 l7 l8 l9 l10 l11)) [zn1 l12 i9 i10 i11 i12,zn6 i13 i14 s1 l13 q1x9 l14 l15 l16 l17 l18]) (znL 1 l13 (znL 1 l14 (znL 1 [zn3 i6 i7 i8 l7 l8 l9 l10 l11] (znL 1 l16 (znL 1 l17 (znL 1 l18 (znL 1 l12 (.ret (znR (.agg [vI i13,vI i14,vS s1,znN 1 l13,(a1D Pg (y_s_api_Ty:TypeId) (AV.slice q1x9 l14 Own.full).dis.dis.dis),znN 8 [zn3 i6 i7 i8 l7 l8 l9 l10 l11],(a1D Pg (y_s_api_Con:TypeId) (AV.slice 0 l16 Own.full).dis.dis.dis),(a1D Pg (y_s_api_Mod:TypeId) (AV.slice 0 l17 Own.full).dis.dis.dis),(a1D Pg (y_s_api_Sig:TypeId) (AV.slice 0 l18 Own.full).dis.dis.dis)]) [zn1 l12 i9 i10 i11 i12])))))))))) (.exR fun l7=>znI6 fun i6 i7 i8 i9 i10 i11=>.exS fun s1=>znR6 fun l8 l9 l10 l11 l12 l13=>.call a1i [znP] .none [zn1 l i i1 i2 i3,zn6 i4 i5 s l1 q1x9 l2 l3 l4 l5 l6] (znQ znF0 [zn1 l7 i6 i7 i8 i9,zn6 i10 i11 s1 l8 q1x9 l9 l10 l11 l12 l13]) (znL 1 l8 (znL 1 l9 (znL 1 l10 (znL 1 l11 (znL 1 l12 (znL 1 l13 (znL 1 l7 (.ret (znQ znF0 [zn1 l7 i6 i7 i8 i9])))))))))))) (.exR fun l=>znI6 fun i i1 i2 i3 i4 i5=>.exS fun s=>znR6 fun l1 l2 l3 l4 l5 l6=>.call a1f [znP,vS znb3] .none [zn1 q1x0 q1x1 q1x2 q1x3 q1x4,zn6 q1x5 q1x6 q1x7 q1x8 q1x9 q1x10 q1x11 q1x12 q1x13 q1x14] (znQ znF0 [zn1 l i i1 i2 i3,zn6 i4 i5 s l1 q1x9 l2 l3 l4 l5 l6]) (znL 1 l1 (znL 1 l2 (znL 1 l3 (znL 1 l4 (znL 1 l5 (znL 1 l6 (znL 1 l (.ret (znQ znF0 [zn1 l i i1 i2 i3])))))))))):=by kernel_rfl
end Go.Proofs
end

section
/- TREES: loops told once for all ways that lead there -/
set_option linter.unusedVariables false
namespace Go.Eng
def KT.setS (s':St):KT→KT
 | .loop f b x _ k=>.loop f b x s' k
 |t=>t
section
variable {P:Program} {cfg:FuncId→FCfg} {call:CallF} {rs:TypeId→List KSh} {QD:List (St→Prop)} {QR:CRes→Prop}
theorem e2w {kc:KC} {σ:Type} {t Y:KT} (S:σ→St) (Inv:σ→Prop) (m:σ→Nat) (a0:σ) (hkc:∀QD,KCS P cfg call QD QR kc) (ht:t=Y.setS (S a0)) (h0:t.atLoop=some (S a0)) (hi:Inv a0)
  (hr:∀a,Inv a→(Y.round P cfg rs kc (S a)).wp P cfg call ((fun s=>∃a',(Inv a'∧m a'<m a)∧s=S a')::QD) QR):t.wp P cfg call QD QR:=by
 subst ht
 cases Y with
 |loop f b x s k=>exact m1J S Inv m a0 hkc h0 hi hr
 |_=>cases h0
end
end Go.Eng
end

section
/- PARSE: the program's reader: declarations (printed by mkr11.py) -/
set_option linter.unusedVariables false
set_option linter.unusedSimpArgs false
set_option maxRecDepth 100000
open Go Go.Eng Go.Pa
open Go.Lx (T Tok)
namespace Go.Proofs
theorem j2t {σ:Type} {t Y:KT} {QD:List (St→Prop)} {QR:CRes→Prop} (S:σ→St) (Inv:σ→Prop) (m:σ→Nat) (a0:σ) (ht:t=Y.setS (S a0)) (h0:t.atLoop=some (S a0)) (hi:Inv a0)
  (hr:∀a,Inv a→(Y.round Pg cfg0 rs0 kc5 (S a)).wp Pg cfg0 evp ((fun s=>∃a',(Inv a'∧m a'<m a)∧s=S a')::QD) QR):t.wp Pg cfg0 evp QD QR:=
 e2w (rs:=rs0) (kc:=kc5) S Inv m a0 (fun _=>hkc5) ht h0 hi hr
abbrev ty4 (t:Ty):List AV:=[vI (tyK t),vS (tyN t),.slice 1 (tyP t) .no,.slice 4 (tyQ t) .no]
abbrev dcl (k:Int) (at_:Int) (nm:T) (psz:Nat) (ps:List (List AV)) (pow:Own) (tsz:Nat) (ts:List (List AV)):List AV:=[vI k,vI at_,vS (bs nm),.slice psz ps pow,.slice tsz ts .full,S0,S0,S0,S0]
theorem low0 (n:Nat):lowss n []=true:=rfl
theorem h1n (t:Ty) (n:Nat):lowss n [ty4 t]=true:=by
 have:=k1H n [t.row]
 simpa only[avss,g1s] using this
theorem r1z (x:Exp):lowss 1 [ex8 x]=true:=by
 have:=k1H 1 [x.row]
 simpa only[avss,b1C] using this
theorem f1G {n:Nat} {k a:Int} {nm:T} {psz tsz:Nat} {ps ts:List (List AV)} {pow:Own} (h1:lowss n ps=true) (h2:lowss n ts=true):lowss n [dcl k a nm psz ps pow tsz ts]=true:=by
 simp [dcl,lowss,lows,AV.low,h1,h2]
 exact⟨rfl,rfl,rfl⟩
theorem k1x:a1D Pg (y_s_api_Con:TypeId) (AV.slice 0 [] .full).dis.dis.dis=.slice 2 [] .no:=by kernel_rfl
theorem k1y:a1D Pg (y_s_api_Mod:TypeId) (AV.slice 0 [] .full).dis.dis.dis=.slice 5 [] .no:=by kernel_rfl
theorem k1z:a1D Pg (y_s_api_Sig:TypeId) (AV.slice 0 [] .full).dis.dis.dis=.slice 5 [] .no:=by kernel_rfl
def pOw:List T→Own
 |[_]=>.full
 |_=>.yes
theorem j2u (a:Nat) (n:T) (x:Exp):decV (.val a n none x)=.agg [vI 1,vI a,vS (bs n),.slice 1 [] .no,.slice 4 [] .no,.slice 8 [ex8 x] .no,.slice 2 [] .no,.slice 5 [] .no,.slice 5 [] .no]:=by
 rw[←p1J];simp only[DK,DA,DN,DP,DTs,DEs,Option.toList,List.map_nil,avss,b1C]<;>rfl
theorem h2D (a:Nat) (n:T) (t:Ty) (x:Exp):decV (.val a n (some t) x)=.agg [vI 1,vI a,vS (bs n),.slice 1 [] .no,.slice 4 [ty4 t] .no,.slice 8 [ex8 x] .no,.slice 2 [] .no,.slice 5 [] .no,.slice 5 [] .no]:=by
 rw[←p1J];simp only[DK,DA,DN,DP,DTs,DEs,Option.toList,List.map_cons,List.map_nil,avss,b1C,g1s]<;>rfl
theorem g2s (a:Nat) (n:T) (ps:List T) (x:Exp):decV (.func a n ps none x)=.agg [vI 2,vI a,vS (bs n),.slice 1 (c1o ps) .no,.slice 4 [] .no,.slice 8 [ex8 x] .no,.slice 2 [] .no,.slice 5 [] .no,.slice 5 [] .no]:=by
 rw[←p1J];simp only[DK,DA,DN,DP,DTs,DEs,Option.toList,List.map_nil,avss,b1C]
theorem c2g (a:Nat) (n:T) (ps:List T) (t:Ty) (x:Exp):decV (.func a n ps (some t) x)=.agg [vI 2,vI a,vS (bs n),.slice 1 (c1o ps) .no,.slice 4 [ty4 t] .no,.slice 8 [ex8 x] .no,.slice 2 [] .no,.slice 5 [] .no,.slice 5 [] .no]:=by
 rw[←p1J];simp only[DK,DA,DN,DP,DTs,DEs,Option.toList,List.map_cons,List.map_nil,avss,b1C,g1s]
theorem j2v {z n:Nat} (hN:n+1<2147483648) (ih:∀m,m<n+1→PE z m) {l:List Tok} {d:Nat} (hg:Gd l) (hd:0<d) (hn:8*l.length+1≤n+1) (hB:d+(n+1)<BIG):RC decV (pDec z (n+1) l) z d a1B [.ptr 0 0] (rH l z d):=by
 generalize hX:pDec z (n+1) l=X
 rw[pDec] at hX
 cases l with
 |nil=>
  have hX0:X=.no 11 z:=by rw[←hX];rfl
  refine i1C (b1g (z1v ..) ?_)
  refine c1c (b1G [] z d _) (fun hw=>by cases hw) (fun hw=>?_)
  refine c1V (c1n Gd.nil hd (by omega)) (fun u r hF hg1=>by cases hF) (fun e p r hF he=>b1o ?_ he)
  have hF':need z wFun []=.no e p:=hF
  rw[hX0];unfold need at hF';rw[if_neg (fun h=>by cases h)] at hF';injection hF' with e1 e2;rw[←e1,←e2];rfl
 |cons tk l=>
 have hlen:(tk::l).length=l.length+1:=rfl
 refine i1C (b1g (z1w ..) ⟨_,_,_,_,row0,?_⟩)
 refine c1c (b1G (tk::l) z d _) (fun hw=>?_) (fun hw=>?_)
 ·
  have hw1:isW wVal (tk::l)=true:=hw
  rw[if_pos hw1] at hX
  refine p1F (j1k (k:=1) hg.tail hd (by omega)) (fun nm r hF hg1=>?_) (fun e p r hF he=>b1o (by rw[←hX,hF];rfl) he)
  have hl1:=k1f hF
  simp only[List.tail_cons] at hl1
  rw[hF] at hX;simp only[Res.bind] at hX
  cases n with
  |zero=>omega
  |succ k=>
  have I2:=ih k (by omega)
  rw[h1h] at hX
  have hlp:∀j,lowss j ([]:List (List AV))=true:=low0
  refine a1t ?_
  have cT:=w1m (K:=[dcl 1 tk.at_ nm 0 [] .full 0 []]) (b1G r z d ⟨#[58]⟩) (fun _=>rfl) (fun _=>rfl) (f1G (hlp 2) (low0 2))
  cases hc:isW p1v r with
  |true=>
   have hc':isW (tx ⟨#[58]⟩) r=true:=hc
   have hlc:=b1k hc
   rw[hc'] at cT
   rw[if_pos hc] at hX
   refine⟨true,_,_,_,_,_,_,_,_,_,_,_,_,_,_,cT,a1d (fun _=>?_) tf⟩
   rcases d1B (K:=[dcl 1 tk.at_ nm 0 [] .full 0 []]) (c1Y hd ((u1P z k).Ty hg1.tail (by omega) (by omega))) f1Z (fun a k=>s1x _ a) (f1G (hlp 2) (low0 2)) with ⟨t,r2,hF2,hg2,c2⟩|⟨e,p,r2,hF2,he,c2⟩
   ·have hl2:=(lenT z k).ty hF2
    rw[hF2] at hX;simp only[Res.bind] at hX
    simp only[tyV,g1s] at c2
    refine .inl ⟨_,_,_,_,_,_,_,_,_,_,_,_,_,_,_,_,_,_,c2,a1e (b1g (n1J ..) ?_)⟩
    rcases d1B (K:=[dcl 1 tk.at_ nm 0 [] .full 4 [ty4 t]]) (c1n (w:=⟨#[61]⟩) hg2 hd (by omega)) (fun _=>rfl) (fun a k=>rfl) (f1G (hlp 2) (h1n t 2)) with ⟨u,r3,hF3,hg3,c3⟩|⟨e,p,r3,hF3,he,c3⟩
    ·have hF3':need z wEq r2=.ok u r3:=hF3
     have hl3:=c1H hF3'
     rw[hF3'] at hX;simp only[Res.bind] at hX
     refine .inl ⟨_,_,_,_,_,_,_,_,_,_,_,_,_,_,c3,?_⟩
     rcases d1B (K:=[dcl 1 tk.at_ nm 0 [] .full 4 [ty4 t]]) (c1Y hd (I2.Exp hg3 (by omega) (by omega))) f1Z (fun a k=>j1l _ a) (f1G (hlp 2) (h1n t 2)) with ⟨x,r4,hF4,hg4,c4⟩|⟨e,p,r4,hF4,he,c4⟩
     ·rw[hF4] at hX;simp only at hX
      simp only[expV,b1C] at c4
      refine .inl ⟨_,_,_,_,_,_,_,_,_,_,_,_,_,_,_,_,_,_,_,_,_,_,c4,hlp 1,h1n t 1,r1z x,rfl,rfl,rfl,b1d ..,c1i (a:=.val tk.at_ nm (some t) x) (l:=r4) hX.symm hg4 ?_⟩
      rw[h1Q,o1m,k1x,k1y,k1z];exact(h2D ..).symm
     ·refine .inr ⟨_,_,_,_,_,_,_,_,_,_,_,_,_,_,c4,hlp 1,h1n t 1,rfl,rfl,rfl,rfl,b1d ..,b1o (by rw[←hX,hF4]) he⟩
    ·have hF3':need z wEq r2=.no e p:=hF3
     refine .inr ⟨_,_,_,_,_,_,_,_,_,_,_,_,_,_,c3,hlp 1,h1n t 1,rfl,rfl,rfl,rfl,b1d ..,b1o (by rw[←hX,hF3']<;>rfl) he⟩
   ·refine .inr ⟨_,_,_,_,_,_,_,_,_,_,_,_,_,_,c2,a1h ⟨hlp 1,rfl,rfl,rfl,rfl,rfl,b1d ..,b1o (by rw[←hX,hF2];rfl) he⟩⟩
  |false=>
   have hc':isW (tx ⟨#[58]⟩) r=false:=hc
   rw[hc'] at cT
   rw[if_neg (by rw[hc];decide)] at hX
   refine⟨false,_,_,_,_,_,_,_,_,_,_,_,_,_,_,cT,a1d nf (fun _=>a1e (b1g (n1J ..) ?_))⟩
   have hg2:=hg1
   have hl2:r.length≤r.length:=Nat.le_refl _
   revert hg2 hl2
   generalize hr2:r=r2
   intro hg2 hl2
   have hlr:r.length=r2.length:=by rw[hr2]
   rw[hr2] at hX
   rcases d1B (K:=[dcl 1 tk.at_ nm 0 [] .full 0 []]) (c1n (w:=⟨#[61]⟩) hg2 hd (by omega)) (fun _=>rfl) (fun a k=>rfl) (f1G (hlp 2) (low0 2)) with ⟨u,r3,hF3,hg3,c3⟩|⟨e,p,r3,hF3,he,c3⟩
   ·have hF3':need z wEq r2=.ok u r3:=hF3
    have hl3:=c1H hF3'
    rw[hF3'] at hX;simp only[Res.bind] at hX
    refine .inl ⟨_,_,_,_,_,_,_,_,_,_,_,_,_,_,c3,?_⟩
    rcases d1B (K:=[dcl 1 tk.at_ nm 0 [] .full 0 []]) (c1Y hd (I2.Exp hg3 (by omega) (by omega))) f1Z (fun a k=>j1l _ a) (f1G (hlp 2) (low0 2)) with ⟨x,r4,hF4,hg4,c4⟩|⟨e,p,r4,hF4,he,c4⟩
    ·rw[hF4] at hX;simp only at hX
     simp only[expV,b1C] at c4
     refine .inl ⟨_,_,_,_,_,_,_,_,_,_,_,_,_,_,_,_,_,_,_,_,_,_,c4,hlp 1,low0 1,r1z x,rfl,rfl,rfl,b1d ..,c1i (a:=.val tk.at_ nm none x) (l:=r4) hX.symm hg4 ?_⟩
     rw[h1Q,j1m,k1x,k1y,k1z];exact(j2u ..).symm
    ·refine .inr ⟨_,_,_,_,_,_,_,_,_,_,_,_,_,_,c4,hlp 1,low0 1,rfl,rfl,rfl,rfl,b1d ..,b1o (by rw[←hX,hF4]) he⟩
   ·have hF3':need z wEq r2=.no e p:=hF3
    refine .inr ⟨_,_,_,_,_,_,_,_,_,_,_,_,_,_,c3,hlp 1,low0 1,rfl,rfl,rfl,rfl,b1d ..,b1o (by rw[←hX,hF3']<;>rfl) he⟩
 ·have hw1:isW wVal (tk::l)=false:=hw
  rw[if_neg (by rw[hw1];decide)] at hX
  refine c1V (c1n hg hd (by omega)) (fun u r0 hF hg0=>?_) (fun e p r hF he=>b1o (by have h':need z wFun (tk::l)=.no e p:=hF;rw[←hX,h'];rfl) he)
  have hF':need z wFun (tk::l)=.ok u r0:=hF
  have hl0:=c1H hF'
  rw[hF'] at hX;simp only[Res.bind] at hX
  refine p1F (j1k (k:=1) hg0 hd (by omega)) (fun nm r1 hF1 hg1=>?_) (fun e p r hF he=>b1o (by rw[←hX,hF]) he)
  have hl1:=k1f hF1
  rw[hF1] at hX;simp only at hX
  refine p1F (j1k (k:=1) hg1 hd (by omega)) (fun p1 r2 hF2 hg2=>?_) (fun e p r hF he=>b1o (by rw[←hX,hF]) he)
  have hl2:=k1f hF2
  rw[hF2] at hX;simp only at hX
  refine j2t (Y:=v1d) (fun s:List T×List Tok=>⟨tm2 38 [(0,(.ptr 0 0)),(2,(.lp 2 0 0)),(5,(.lp 5 0 0))],lm2 38 [(2,(0,[vI 0,vI 0,vS ⟨#[]⟩,S0,S0,S0,S0,S0,S0])),(5,(0,dcl 2 tk.at_ nm 1 (c1o s.1) (pOw s.1) 0 []))],⟨[hp5 (tks s.2) z 0 0 d],[],.none,1⟩⟩)
   (fun s=>X=((h1h z n (params z s.1 s.2).2).bind fun b r'=>.ok (.func tk.at_ nm (params z s.1 s.2).1 b.1 b.2) r')∧Gd s.2∧s.1.length+s.2.length≤l.length∧s.2.length<r1.length∧s.1≠[]) (fun s=>s.2.length) ([p1],r2) (by kernel_rfl) (by kernel_rfl) ⟨hX.symm,hg2,by simp only[List.length_cons,List.length_nil];omega,hl2,by simp⟩ ?_
  rintro ⟨ps,r⟩ ⟨hX,hg1,hpl,hrl,hne⟩
  dsimp only at hX hg1 hpl hrl hne⊢
  have hX:=hX.symm
  have hlp:∀j,lowss j (c1o ps)=true:=fun j=>g1U j ps
  cases ps with
  |nil=>exact absurd rfl hne
  |cons q ps=>
  cases ps with
  |nil=>
   refine b1g (z1x ..) (h1P (g1O r z d 1) (fun hk=>?_) (fun hk=>?_))
   ·cases r with
    |nil=>cases hk
    |cons t r=>
    have hk':(t.kind==1)=true:=hk
    have htk:taken z 1 (t::r)=.ok t.text r:=by simp only[taken,hk',if_true]
    refine p1F (j1k (k:=1) hg1 hd (by omega)) (fun w r3 hF3 hg3=>?_) (fun e p r3 hF3 he=>by rw[htk] at hF3;cases hF3)
    rw[htk] at hF3
    injection hF3 with e1 e2
    subst e1 e2
    have hpr:params z ([q]) (t::r)=params z ([q]++[t.text]) r:=by rw[params,if_pos hk']
    rw[hpr] at hX
    simp only[List.length_cons,List.length_nil] at hpl hrl
    exact a1e ⟨([q]++[t.text],r),⟨⟨hX.symm,hg3,by simp only[List.length_append,List.length_cons,List.length_nil];omega,by simp only;omega,by simp⟩,by simp only[List.length_cons];omega⟩,rfl⟩
   ·have hpr:params z ([q]) r=([q],r):=by
     cases r with
     |nil=>rw[params]
     |cons t r=>have hk':(t.kind==1)=false:=hk;rw[params,if_neg (by rw[hk'];decide)]
    rw[hpr] at hX
    dsimp only at hX
    cases n with
    |zero=>omega
    |succ k=>
    have I2:=ih k (by omega)
    simp only[List.length_cons,List.length_nil] at hpl
    rw[h1h] at hX
    refine a1h ?_
    refine a1t ?_
    have cT:=w1m (K:=[dcl 2 tk.at_ nm 1 (c1o [q]) .full 0 []]) (b1G r z d ⟨#[58]⟩) (fun _=>rfl) (fun _=>rfl) (f1G (hlp 2) (low0 2))
    cases hc:isW p1v r with
    |true=>
     have hc':isW (tx ⟨#[58]⟩) r=true:=hc
     have hlc:=b1k hc
     rw[hc'] at cT
     rw[if_pos hc] at hX
     refine⟨true,_,_,_,_,_,_,_,_,_,_,_,_,_,_,cT,a1d (fun _=>?_) tf⟩
     rcases d1B (K:=[dcl 2 tk.at_ nm 1 (c1o [q]) .full 0 []]) (c1Y hd ((u1P z k).Ty hg1.tail (by omega) (by omega))) f1Z (fun a k=>s1x _ a) (f1G (hlp 2) (low0 2)) with ⟨t,r2,hF2,hg2,c2⟩|⟨e,p,r2,hF2,he,c2⟩
     ·have hl2:=(lenT z k).ty hF2
      rw[hF2] at hX;simp only[Res.bind] at hX
      simp only[tyV,g1s] at c2
      refine .inl ⟨_,_,_,_,_,_,_,_,_,_,_,_,_,_,_,_,_,_,c2,a1e (b1g (n1K ..) ?_)⟩
      rcases d1B (K:=[dcl 2 tk.at_ nm 1 (c1o [q]) .full 4 [ty4 t]]) (c1n (w:=⟨#[61]⟩) hg2 hd (by omega)) (fun _=>rfl) (fun a k=>rfl) (f1G (hlp 2) (h1n t 2)) with ⟨u,r3,hF3,hg3,c3⟩|⟨e,p,r3,hF3,he,c3⟩
      ·have hF3':need z wEq r2=.ok u r3:=hF3
       have hl3:=c1H hF3'
       rw[hF3'] at hX;simp only[Res.bind] at hX
       refine .inl ⟨_,_,_,_,_,_,_,_,_,_,_,_,_,_,c3,?_⟩
       rcases d1B (K:=[dcl 2 tk.at_ nm 1 (c1o [q]) .full 4 [ty4 t]]) (c1Y hd (I2.Exp hg3 (by omega) (by omega))) f1Z (fun a k=>j1l _ a) (f1G (hlp 2) (h1n t 2)) with ⟨x,r4,hF4,hg4,c4⟩|⟨e,p,r4,hF4,he,c4⟩
       ·rw[hF4] at hX;simp only at hX
        simp only[expV,b1C] at c4
        refine .inl ⟨_,_,_,_,_,_,_,_,_,_,_,_,_,_,_,_,_,_,_,_,_,_,c4,hlp 1,h1n t 1,r1z x,rfl,rfl,rfl,b1d ..,c1i (a:=.func tk.at_ nm [q] (some t) x) (l:=r4) hX.symm hg4 ?_⟩
        rw[o1m,k1x,k1y,k1z];exact(c2g ..).symm
       ·refine .inr ⟨_,_,_,_,_,_,_,_,_,_,_,_,_,_,c4,hlp 1,h1n t 1,rfl,rfl,rfl,rfl,b1d ..,b1o (by rw[←hX,hF4]) he⟩
      ·have hF3':need z wEq r2=.no e p:=hF3
       refine .inr ⟨_,_,_,_,_,_,_,_,_,_,_,_,_,_,c3,hlp 1,h1n t 1,rfl,rfl,rfl,rfl,b1d ..,b1o (by rw[←hX,hF3']<;>rfl) he⟩
     ·refine .inr ⟨_,_,_,_,_,_,_,_,_,_,_,_,_,_,c2,a1h ⟨hlp 1,rfl,rfl,rfl,rfl,rfl,b1d ..,b1o (by rw[←hX,hF2];rfl) he⟩⟩
    |false=>
     have hc':isW (tx ⟨#[58]⟩) r=false:=hc
     rw[hc'] at cT
     rw[if_neg (by rw[hc];decide)] at hX
     refine⟨false,_,_,_,_,_,_,_,_,_,_,_,_,_,_,cT,a1d nf (fun _=>a1e (b1g (n1K ..) ?_))⟩
     have hg2:=hg1
     have hl2:r.length≤r.length:=Nat.le_refl _
     revert hg2 hl2
     generalize hr2:r=r2
     intro hg2 hl2
     have hlr:r.length=r2.length:=by rw[hr2]
     rw[hr2] at hX
     rcases d1B (K:=[dcl 2 tk.at_ nm 1 (c1o [q]) .full 0 []]) (c1n (w:=⟨#[61]⟩) hg2 hd (by omega)) (fun _=>rfl) (fun a k=>rfl) (f1G (hlp 2) (low0 2)) with ⟨u,r3,hF3,hg3,c3⟩|⟨e,p,r3,hF3,he,c3⟩
     ·have hF3':need z wEq r2=.ok u r3:=hF3
      have hl3:=c1H hF3'
      rw[hF3'] at hX;simp only[Res.bind] at hX
      refine .inl ⟨_,_,_,_,_,_,_,_,_,_,_,_,_,_,c3,?_⟩
      rcases d1B (K:=[dcl 2 tk.at_ nm 1 (c1o [q]) .full 0 []]) (c1Y hd (I2.Exp hg3 (by omega) (by omega))) f1Z (fun a k=>j1l _ a) (f1G (hlp 2) (low0 2)) with ⟨x,r4,hF4,hg4,c4⟩|⟨e,p,r4,hF4,he,c4⟩
      ·rw[hF4] at hX;simp only at hX
       simp only[expV,b1C] at c4
       refine .inl ⟨_,_,_,_,_,_,_,_,_,_,_,_,_,_,_,_,_,_,_,_,_,_,c4,hlp 1,low0 1,r1z x,rfl,rfl,rfl,b1d ..,c1i (a:=.func tk.at_ nm [q] none x) (l:=r4) hX.symm hg4 ?_⟩
       rw[j1m,k1x,k1y,k1z];exact(g2s ..).symm
      ·refine .inr ⟨_,_,_,_,_,_,_,_,_,_,_,_,_,_,c4,hlp 1,low0 1,rfl,rfl,rfl,rfl,b1d ..,b1o (by rw[←hX,hF4]) he⟩
     ·have hF3':need z wEq r2=.no e p:=hF3
      refine .inr ⟨_,_,_,_,_,_,_,_,_,_,_,_,_,_,c3,hlp 1,low0 1,rfl,rfl,rfl,rfl,b1d ..,b1o (by rw[←hX,hF3']<;>rfl) he⟩
  |cons q2 ps=>
   refine b1g (z1y ..) (h1P (g1O r z d 1) (fun hk=>?_) (fun hk=>?_))
   ·cases r with
    |nil=>cases hk
    |cons t r=>
    have hk':(t.kind==1)=true:=hk
    have htk:taken z 1 (t::r)=.ok t.text r:=by simp only[taken,hk',if_true]
    refine p1F (j1k (k:=1) hg1 hd (by omega)) (fun w r3 hF3 hg3=>?_) (fun e p r3 hF3 he=>by rw[htk] at hF3;cases hF3)
    rw[htk] at hF3
    injection hF3 with e1 e2
    subst e1 e2
    have hpr:params z (q::q2::ps) (t::r)=params z (q::q2::ps++[t.text]) r:=by rw[params,if_pos hk']
    rw[hpr] at hX
    simp only[List.length_cons,List.length_nil] at hpl hrl
    exact⟨f2s (by simp only[c1o,List.length_map,List.length_cons];omega),a1e ⟨(q::q2::ps++[t.text],r),⟨⟨hX.symm,hg3,by simp only[List.length_append,List.length_cons,List.length_nil];omega,by simp only;omega,by simp⟩,by simp only[List.length_cons];omega⟩,by simp only[c1o,List.map_append,List.map_cons,List.map_nil,List.cons_append];rfl⟩⟩
   ·have hpr:params z (q::q2::ps) r=(q::q2::ps,r):=by
     cases r with
     |nil=>rw[params]
     |cons t r=>have hk':(t.kind==1)=false:=hk;rw[params,if_neg (by rw[hk'];decide)]
    rw[hpr] at hX
    dsimp only at hX
    cases n with
    |zero=>omega
    |succ k=>
    have I2:=ih k (by omega)
    simp only[List.length_cons,List.length_nil] at hpl
    rw[h1h] at hX
    refine a1h ?_
    refine a1t ?_
    have cT:=w1m (K:=[dcl 2 tk.at_ nm 1 (c1o (q::q2::ps)) .yes 0 []]) (b1G r z d ⟨#[58]⟩) (fun _=>rfl) (fun _=>rfl) (f1G (hlp 2) (low0 2))
    cases hc:isW p1v r with
    |true=>
     have hc':isW (tx ⟨#[58]⟩) r=true:=hc
     have hlc:=b1k hc
     rw[hc'] at cT
     rw[if_pos hc] at hX
     refine⟨true,_,_,_,_,_,_,_,_,_,_,_,_,_,_,cT,a1d (fun _=>?_) tf⟩
     rcases d1B (K:=[dcl 2 tk.at_ nm 1 (c1o (q::q2::ps)) .yes 0 []]) (c1Y hd ((u1P z k).Ty hg1.tail (by omega) (by omega))) f1Z (fun a k=>s1x _ a) (f1G (hlp 2) (low0 2)) with ⟨t,r2,hF2,hg2,c2⟩|⟨e,p,r2,hF2,he,c2⟩
     ·have hl2:=(lenT z k).ty hF2
      rw[hF2] at hX;simp only[Res.bind] at hX
      simp only[tyV,g1s] at c2
      refine .inl ⟨_,_,_,_,_,_,_,_,_,_,_,_,_,_,_,_,_,_,c2,a1e (b1g (n1L ..) ?_)⟩
      rcases d1B (K:=[dcl 2 tk.at_ nm 1 (c1o (q::q2::ps)) .yes 4 [ty4 t]]) (c1n (w:=⟨#[61]⟩) hg2 hd (by omega)) (fun _=>rfl) (fun a k=>rfl) (f1G (hlp 2) (h1n t 2)) with ⟨u,r3,hF3,hg3,c3⟩|⟨e,p,r3,hF3,he,c3⟩
      ·have hF3':need z wEq r2=.ok u r3:=hF3
       have hl3:=c1H hF3'
       rw[hF3'] at hX;simp only[Res.bind] at hX
       refine .inl ⟨_,_,_,_,_,_,_,_,_,_,_,_,_,_,c3,?_⟩
       rcases d1B (K:=[dcl 2 tk.at_ nm 1 (c1o (q::q2::ps)) .yes 4 [ty4 t]]) (c1Y hd (I2.Exp hg3 (by omega) (by omega))) f1Z (fun a k=>j1l _ a) (f1G (hlp 2) (h1n t 2)) with ⟨x,r4,hF4,hg4,c4⟩|⟨e,p,r4,hF4,he,c4⟩
       ·rw[hF4] at hX;simp only at hX
        simp only[expV,b1C] at c4
        refine .inl ⟨_,_,_,_,_,_,_,_,_,_,_,_,_,_,_,_,_,_,_,_,_,_,c4,hlp 1,h1n t 1,r1z x,rfl,rfl,rfl,b1d ..,c1i (a:=.func tk.at_ nm (q::q2::ps) (some t) x) (l:=r4) hX.symm hg4 ?_⟩
        rw[o1m,k1x,k1y,k1z];exact(c2g ..).symm
       ·refine .inr ⟨_,_,_,_,_,_,_,_,_,_,_,_,_,_,c4,hlp 1,h1n t 1,rfl,rfl,rfl,rfl,b1d ..,b1o (by rw[←hX,hF4]) he⟩
      ·have hF3':need z wEq r2=.no e p:=hF3
       refine .inr ⟨_,_,_,_,_,_,_,_,_,_,_,_,_,_,c3,hlp 1,h1n t 1,rfl,rfl,rfl,rfl,b1d ..,b1o (by rw[←hX,hF3']<;>rfl) he⟩
     ·refine .inr ⟨_,_,_,_,_,_,_,_,_,_,_,_,_,_,c2,a1h ⟨hlp 1,rfl,rfl,rfl,rfl,rfl,b1d ..,b1o (by rw[←hX,hF2];rfl) he⟩⟩
    |false=>
     have hc':isW (tx ⟨#[58]⟩) r=false:=hc
     rw[hc'] at cT
     rw[if_neg (by rw[hc];decide)] at hX
     refine⟨false,_,_,_,_,_,_,_,_,_,_,_,_,_,_,cT,a1d nf (fun _=>a1e (b1g (n1L ..) ?_))⟩
     have hg2:=hg1
     have hl2:r.length≤r.length:=Nat.le_refl _
     revert hg2 hl2
     generalize hr2:r=r2
     intro hg2 hl2
     have hlr:r.length=r2.length:=by rw[hr2]
     rw[hr2] at hX
     rcases d1B (K:=[dcl 2 tk.at_ nm 1 (c1o (q::q2::ps)) .yes 0 []]) (c1n (w:=⟨#[61]⟩) hg2 hd (by omega)) (fun _=>rfl) (fun a k=>rfl) (f1G (hlp 2) (low0 2)) with ⟨u,r3,hF3,hg3,c3⟩|⟨e,p,r3,hF3,he,c3⟩
     ·have hF3':need z wEq r2=.ok u r3:=hF3
      have hl3:=c1H hF3'
      rw[hF3'] at hX;simp only[Res.bind] at hX
      refine .inl ⟨_,_,_,_,_,_,_,_,_,_,_,_,_,_,c3,?_⟩
      rcases d1B (K:=[dcl 2 tk.at_ nm 1 (c1o (q::q2::ps)) .yes 0 []]) (c1Y hd (I2.Exp hg3 (by omega) (by omega))) f1Z (fun a k=>j1l _ a) (f1G (hlp 2) (low0 2)) with ⟨x,r4,hF4,hg4,c4⟩|⟨e,p,r4,hF4,he,c4⟩
      ·rw[hF4] at hX;simp only at hX
       simp only[expV,b1C] at c4
       refine .inl ⟨_,_,_,_,_,_,_,_,_,_,_,_,_,_,_,_,_,_,_,_,_,_,c4,hlp 1,low0 1,r1z x,rfl,rfl,rfl,b1d ..,c1i (a:=.func tk.at_ nm (q::q2::ps) none x) (l:=r4) hX.symm hg4 ?_⟩
       rw[j1m,k1x,k1y,k1z];exact(g2s ..).symm
      ·refine .inr ⟨_,_,_,_,_,_,_,_,_,_,_,_,_,_,c4,hlp 1,low0 1,rfl,rfl,rfl,rfl,b1d ..,b1o (by rw[←hX,hF4]) he⟩
     ·have hF3':need z wEq r2=.no e p:=hF3
      refine .inr ⟨_,_,_,_,_,_,_,_,_,_,_,_,_,_,c3,hlp 1,low0 1,rfl,rfl,rfl,rfl,b1d ..,b1o (by rw[←hX,hF3']<;>rfl) he⟩
end Go.Proofs
end

section
/- PARSE: the program's reader: all rules of expressions -/
set_option linter.unusedVariables false
set_option linter.unusedSimpArgs false
set_option maxRecDepth 100000
open Go Go.Eng Go.Pa
open Go.Lx (T Tok)
namespace Go.Proofs
theorem j2w (z:Nat):∀n,n<2147483648→PE z n:=by
 intro n
 induction n using Nat.strongRecOn with
 |ind n IH=>
  intro hN
  cases n with
  |zero=>
   refine⟨fun _ _ h=>by omega,?_,fun _ _ h=>by omega,fun _ _ h=>by omega,fun _ _ h=>by omega,fun _ _ h=>by omega⟩
   intro lv l d hlv _ _ h
   omega
  |succ n=>
   have ih:∀m,m<n+1→PE z m:=fun m hm=>IH m hm (by omega)
   have I:=ih n (Nat.lt_succ_self n)
   have hexp:∀{l:List Tok} {d:Nat},Gd l→0<d→8*l.length+7≤n+1→d+(n+1)<BIG→RC expV (pExp z (n+1) l) z d a1L [.ptr 0 0] (rH l z d):=fun hg hd hn hB=>j2D I hg hd hn hB
   refine⟨hexp,fun {lv l d} hlv hg hd hn hB=>?_,fun hg hd hn hB=>j2E ih hg hd hn hB,fun hg hd hn hB=>h2C hN ih hg hd hn hB,fun hg hd hn hB=>pe_br hN I hexp ih hg hd hn hB,fun hg hd hn hB=>j2v hN ih hg hd hn hB⟩
   match lv,hlv with
   |0,_=>exact h2O ih hg hd hn hB
   |1,_=>exact h2M ih hg hd hn hB
   |2,_=>exact h2K ih hg hd hn hB
   |3,_=>exact h2I I hg hd hn hB
end Go.Proofs
end

section
/- PARSE: expressions are typed, not too large; the program's RightExp -/
set_option linter.unusedVariables false
set_option linter.unusedSimpArgs false
set_option maxRecDepth 100000
open Go Go.Eng Go.Pa
open Go.Lx (T Tok)
namespace Go.Proofs
def Wu (n:Nat):Nat:=100000*n
theorem v1q (a b:Nat):Wu (a+b)=Wu a+Wu b:=Nat.mul_add ..
theorem v1r:Wu 1=100000:=rfl
theorem i2j (a:Nat):Wu (a+1)=100000+Wu a:=by rw[v1q,v1r,Nat.add_comm]
theorem x1a {a b:Nat} (h:a≤b):Wu a≤Wu b:=Nat.mul_le_mul_left _ h
structure OneB (e:TypeId) (sz c:Nat) (r:Row):Prop where
 has:Has Pg e r
 len:r.length=sz
 one:Ck.oneR r=1
 cnt:Ck.cntR r+2≤2*c
 bulk:d1g r+100000≤2*Wu c
 pos:1≤c
structure RowB (e:TypeId) (sz n:Nat) (l:List Row):Prop where
 len:l.length≤n
 has:∀r∈l,Has Pg e r
 size:∀r∈l,r.length=sz
 cnt:Ck.cnts l+l.length≤2*n
 bulk:c1f l+Wu l.length≤2*Wu n
theorem RowB.nil {e:TypeId} {sz:Nat}:RowB e sz 0 []:=⟨by simp,fun r h=>(by cases h),fun r h=>(by cases h),by simp [Ck.cnts],by simp [c1f,Wu]⟩
theorem RowB.cons {e:TypeId} {sz c n:Nat} {r:Row} {l:List Row} (h:OneB e sz c r) (k:RowB e sz n l):RowB e sz (c+n) (r::l):=by
 obtain⟨h1,h2,h3,h4,h5,h6⟩:=h
 obtain⟨k1,k2,k3,k4,k5⟩:=k
 refine⟨by simp only[List.length_cons];omega,fun x hx=>?_,fun x hx=>?_,?_,?_⟩
 ·rcases List.mem_cons.1 hx with rfl|hx
  ·exact h1
  ·exact k2 x hx
 ·rcases List.mem_cons.1 hx with rfl|hx
  ·exact h2
  ·exact k3 x hx
 ·simp only[Ck.cnts,List.length_cons,h3];omega
 ·simp only[c1f,List.length_cons,i2j];rw[v1q];omega
theorem RowB.rows {te e:TypeId} {sz n:Nat} {l:List Row} (k:RowB e sz n l) (hu:Pg.underlying te=some (.slice e)) (hc:Pg.cellsOf e=sz) (hn:n≤1000000):Has Pg te [.rows sz l]:=
 m1s hu hc (Nat.le_trans (Nat.le_trans k.len hn) (by decide)) k.has k.size
theorem tyB (t:Ty) (h:t.Ok):OneB c1e 4 t.cnt t.row:=by
 have h1:=n1n t
 have h2:d1g t.row≤Wu t.cnt:=n1o t h
 have h3:=x1a (show 1≤t.cnt by omega)
 rw[v1r] at h3
 exact⟨r1L t h,d2O t,by cases t<;>rfl,by omega,by omega,by omega⟩
theorem patB (t:Pat) (h:t.Ok):OneB c1A 5 t.cnt t.row:=by
 have h1:=o1y t
 have h2:d1g t.row≤Wu t.cnt:=o1z t h
 have h3:=x1a (show 1≤t.cnt by omega)
 rw[v1r] at h3
 exact⟨t1x t h,x1f t,x1g t,by omega,by omega,by omega⟩
theorem optB (t:Option Ty) (h:e2A t):RowB c1e 4 (n1A t) (t.toList.map Ty.row):=by
 cases t with
 |none=>exact RowB.nil
 |some t=>exact RowB.cons (n:=0) (tyB t h) RowB.nil
theorem expB {k o v:Int} {p:List T} {ps ks ds ts:List Row} {n1 n2 n3 n4 c:Nat} (hk:0≤k∧k<9223372036854775808) (ho:0≤o∧o<9223372036854775808) (hv:0≤v∧v<9223372036854775808) (hp:h1i p)
  (h1:RowB c1A 5 n1 ps) (h2:RowB c1z 8 n2 ks) (h3:RowB c1u 9 n3 ds) (h4:RowB c1e 4 n4 ts) (hM:c≤1000000) (hs:n1+n2+n3+n4≤c) (hc:n1+n2+n3+n4+1≤c∨2≤ks.length):OneB c1z 8 c (expR k o v p ps ks ds ts):=by
 have q1:=h1.cnt
 have q2:=h2.cnt
 have q3:=h3.cnt
 have q4:=h4.cnt
 have b1:=h1.bulk
 have b2:=h2.bulk
 have b3:=h3.bulk
 have b4:=h4.bulk
 have hb:=k1p hp.2
 have hp1:=hp.1
 refine⟨k1E Ck.j2X (.cons (a:=[ci k]) (n1m hk) (.cons (a:=[ci o]) (n1m ho) (.cons (a:=[ci v]) (v1u hv) (.cons (a:=[cp p]) (t1t hp) (.cons (a:=[.rows 5 ps]) (h1.rows Ck.s1T Ck.f2D (by omega)) (.cons (a:=[.rows 8 ks]) (h2.rows Ck.s1U Ck.f2E (by omega)) (.cons (a:=[.rows 9 ds]) (h3.rows Ck.w1N Ck.i2f (by omega)) (.cons (a:=[.rows 4 ts]) (h4.rows Ck.m1r Ck.c_Ty (by omega)) .nil)))))))),rfl,rfl,?_,?_,by have:=h2.len;omega⟩
 ·simp only[expR,cp]
  rw[Ck.k1C]
  have:=h2.len
  omega
 ·simp only[expR,cp,d1g,CT.bulk]
  have w1:=x1a hs
  simp only[v1q] at w1
  rcases hc with hc|hc
  ·have w2:=x1a hc
   simp only[v1q,v1r] at w2
   omega
  ·have w2:200000≤Wu ks.length:=x1a hc
   omega
theorem decB {k a:Int} {n:T} {p:List T} {ts es:List Row} {n1 n2 c:Nat} (hk:0≤k∧k<9223372036854775808) (ha:0≤a∧a<9223372036854775808) (hn:f1f n) (hp:∀w∈p,f1f w)
  (h1:RowB c1e 4 n1 ts) (h2:RowB c1z 8 n2 es) (hM:c≤1000000) (hc:p.length+n1+n2+1≤c):OneB c1u 9 c (decR k a n p ts es):=by
 have q1:=h1.cnt
 have q2:=h2.cnt
 have b1:=h1.bulk
 have b2:=h2.bulk
 have hb:=k1p hp
 have hn':n.length≤4096:=hn
 have hpr:Has Pg y_s_string [cp p]:=m1s Ck.f1q Ck.i1a (by simp only[List.length_map];exact Nat.le_trans (show p.length≤1000000 by omega) (by decide)) (fun r hr=>by
  obtain⟨t,ht,rfl⟩:=List.mem_map.1 hr
  exact q1t (hp t ht)) (fun r hr=>by
  obtain⟨t,ht,rfl⟩:=List.mem_map.1 hr
  rfl)
 refine⟨k1E Ck.j2Y (.cons (a:=[ci k]) (n1m hk) (.cons (a:=[ci a]) (n1m ha) (.cons (a:=[cs n]) (q1t hn) (.cons (a:=[cp p]) hpr (.cons (a:=[.rows 4 ts]) (h1.rows Ck.m1r Ck.c_Ty (by omega)) (.cons (a:=[.rows 8 es]) (h2.rows Ck.s1U Ck.f2E (by omega)) (.cons (a:=[.rows 2 []]) (RowB.nil.rows Ck.w1M Ck.i2e (by omega)) (.cons (a:=[.rows 5 []]) (RowB.nil.rows Ck.w1O Ck.i2g (by omega)) (.cons (a:=[.rows 5 []]) (RowB.nil.rows Ck.q1n Ck.d2s (by omega)) .nil))))))))),rfl,rfl,?_,?_,by omega⟩
 ·simp only[decR,cp]
  rw[Ck.m1n]
  simp only[Ck.cnts]
  omega
 ·simp only[decR,cp,d1g,CT.bulk,c1f,bsz]
  have w2:=x1a hc
  simp only[v1q,v1r] at w2
  have w3:5000*p.length≤Wu p.length:=Nat.mul_le_mul_right _ (by decide)
  omega
mutual
theorem e1A:∀x:Exp,x.Ok→x.cnt≤1000000→OneB c1z 8 x.cnt x.row
 | .int v,h,hc=>expB (by decide) (by decide) (by have h:v<9223372036854775808:=h;omega) f1E .nil .nil .nil .nil hc (by simp [Exp.cnt]) (.inl (by simp [Exp.cnt]))
 | .tru,h,hc=>expB (by decide) (by decide) (by decide) f1E .nil .nil .nil .nil hc (by simp [Exp.cnt]) (.inl (by simp [Exp.cnt]))
 | .fls,h,hc=>expB (by decide) (by decide) (by decide) f1E .nil .nil .nil .nil hc (by simp [Exp.cnt]) (.inl (by simp [Exp.cnt]))
 | .unit,h,hc=>expB (by decide) (by decide) (by decide) f1E .nil .nil .nil .nil hc (by simp [Exp.cnt]) (.inl (by simp [Exp.cnt]))
 | .var p,h,hc=>expB (by decide) (by decide) (by decide) h .nil .nil .nil .nil hc (by simp [Exp.cnt]) (.inl (by simp [Exp.cnt]))
 | .con p,h,hc=>expB (by decide) (by decide) (by decide) h .nil .nil .nil .nil hc (by simp [Exp.cnt]) (.inl (by simp [Exp.cnt]))
 | .fn p x,h,hc=>by
  simp only[Exp.cnt] at hc⊢
  exact expB (by decide) (by decide) (by decide) f1E (.cons (n:=0) (patB p h.1) .nil) (.cons (n:=0) (e1A x h.2 (by omega)) .nil) .nil .nil hc (by omega) (.inl (by omega))
 | .app f x,h,hc=>by
  simp only[Exp.cnt] at hc⊢
  exact expB (by decide) (by decide) (by decide) f1E .nil (.cons (e1A f h.1 (by omega)) (.cons (n:=0) (e1A x h.2 (by omega)) .nil)) .nil .nil hc (by omega) (.inr (by simp))
 | .pair f x,h,hc=>by
  simp only[Exp.cnt] at hc⊢
  exact expB (by decide) (by decide) (by decide) f1E .nil (.cons (e1A f h.1 (by omega)) (.cons (n:=0) (e1A x h.2 (by omega)) .nil)) .nil .nil hc (by omega) (.inl (by omega))
 | .lets l x,h,hc=>by
  simp only[Exp.cnt] at hc⊢
  exact expB (by decide) (by decide) (by decide) f1E .nil (.cons (n:=0) (e1A x h.2 (by omega)) .nil) (y1d l h.1 (by omega)) .nil hc (by omega) (.inl (by omega))
 | .ite c f x,h,hc=>by
  simp only[Exp.cnt] at hc⊢
  exact expB (by decide) (by decide) (by decide) f1E .nil (.cons (e1A c h.1 (by omega)) (.cons (e1A f h.2.1 (by omega)) (.cons (n:=0) (e1A x h.2.2 (by omega)) .nil))) .nil .nil hc (by omega) (.inl (by omega))
 | .cases x l,h,hc=>by
  simp only[Exp.cnt] at hc⊢
  obtain⟨a,b,hab,h1,h2⟩:=v1s l h.2 (by omega)
  exact expB (by decide) (by decide) (by decide) f1E h1 (.cons (e1A x h.1 (by omega)) h2) .nil .nil hc (by omega) (.inl (by omega))
 | .bin o f x,h,hc=>by
  simp only[Exp.cnt] at hc⊢
  exact expB (by decide) (by have:=h.1;omega) (by decide) f1E .nil (.cons (e1A f h.2.1 (by omega)) (.cons (n:=0) (e1A x h.2.2 (by omega)) .nil)) .nil .nil hc (by omega) (.inl (by omega))
 | .ann x t,h,hc=>by
  simp only[Exp.cnt] at hc⊢
  exact expB (by decide) (by decide) (by decide) f1E .nil (.cons (n:=0) (e1A x h.1 (by omega)) .nil) .nil (.cons (n:=0) (tyB t h.2) .nil) hc (by omega) (.inl (by omega))
theorem i2k:∀d:Dec,d.Ok→d.cnt≤1000000→OneB c1u 9 d.cnt d.row
 | .val a n t x,h,hc=>by
  simp only[Dec.cnt] at hc⊢
  exact decB (p:=[]) (by decide) (by have:=h.1;omega) h.2.1 (fun w hw=>by cases hw) (optB t h.2.2.1) (.cons (n:=0) (e1A x h.2.2.2 (by omega)) .nil) hc (by simp only[List.length_nil];omega)
 | .func a n ps t x,h,hc=>by
  simp only[Dec.cnt] at hc⊢
  exact decB (by decide) (by have:=h.1;omega) h.2.1 h.2.2.1 (optB t h.2.2.2.1) (.cons (n:=0) (e1A x h.2.2.2.2 (by omega)) .nil) hc (by omega)
theorem y1d:∀l:List Dec,k1M l→d1y l≤1000000→RowB c1u 9 (d1y l) (j1h l)
 |[],_,_=>.nil
 |d::l,h,hc=>by
  simp only[d1y] at hc⊢
  exact .cons (i2k d h.1 (by omega)) (y1d l h.2 (by omega))
theorem v1s:∀l:List (Pat×Exp),i1h l→c1G l≤1000000→∃a b,a+b=c1G l∧RowB c1A 5 a (l.map fun b=>b.1.row)∧RowB c1z 8 b (f1e l)
 |[],_,_=>⟨0,0,rfl,.nil,.nil⟩
 |(p,x)::l,h,hc=>by
  simp only[c1G] at hc⊢
  obtain⟨a,b,hab,h1,h2⟩:=v1s l h.2.2 (by omega)
  exact⟨p.cnt+a,x.cnt+b,by omega,.cons (patB p h.1) h1,.cons (e1A x h.2.1 (by omega)) h2⟩
end
def Xdep (x:Exp):Nat:=Ck.wms 0 0 [x.row]
end Go.Proofs
end

section
/- PARSE, plain: the kids of expressions and declarations; what places change in them: nothing but places -/
set_option linter.unusedVariables false
set_option linter.unusedSimpArgs false
namespace Go.Pa
open Go Go.Eng
open Go.Lx (T Tok)
def c1l:Exp→List Exp
 | .fn _ x=>[x]
 | .app f x=>[f,x]
 | .pair a b=>[a,b]
 | .lets _ x=>[x]
 | .ite c a b=>[c,a,b]
 | .cases x l=>x::l.map (·.2)
 | .bin _ a b=>[a,b]
 | .ann x _=>[x]
 |_=>[]
def c1m:Exp→List Pat
 | .fn p _=>[p]
 | .cases _ l=>l.map (·.1)
 |_=>[]
def c1w:Exp→List Dec
 | .lets l _=>l
 |_=>[]
def d1z:Exp→List Ty
 | .ann _ t=>[t]
 |_=>[]
def k1N:Dec→Exp
 | .val _ _ _ x=>x
 | .func _ _ _ _ x=>x
def h1N:Dec→List Ty
 | .val _ _ t _=>t.toList
 | .func _ _ _ t _=>t.toList
theorem u1A:∀l:List Dec,j1h l=l.map Dec.row
 |[]=>rfl
 |d::l=>by rw[j1h,u1A l];rfl
theorem r1u:∀l:List (Pat×Exp),f1e l=l.map fun b=>b.2.row
 |[]=>rfl
 |(p,x)::l=>by rw[f1e,r1u l];rfl
theorem b2M:∀l:List Dec,bDs l=l.map bD
 |[]=>rfl
 |d::l=>by rw[bDs,b2M l];rfl
theorem s1l:∀l:List (Pat×Exp),bCs l=l.map fun b=>(b.1,bE b.2)
 |[]=>rfl
 |(p,x)::l=>by rw[bCs,s1l l];rfl
theorem g2j (x:Exp):c1l (bE x)=(c1l x).map bE:=by
 cases x with
 |cases x l=>simp only[bE,c1l,s1l,List.map_cons,List.map_map];rfl
 |_=>simp only[bE,c1l,List.map_cons,List.map_nil]
theorem g2k (x:Exp):c1m (bE x)=c1m x:=by
 cases x with
 |cases x l=>simp only[bE,c1m,s1l,List.map_map];rfl
 |_=>simp only[bE,c1m]
theorem g2l (x:Exp):c1w (bE x)=(c1w x).map bD:=by
 cases x with
 |lets l x=>simp only[bE,c1w,b2M]
 |_=>simp only[bE,c1w,List.map_nil]
theorem i2G (x:Exp):d1z (bE x)=d1z x:=by cases x<;>simp only[bE,d1z]
theorem g2m (d:Dec):k1N (bD d)=bE (k1N d):=by cases d<;>simp only[bD,k1N]
theorem g2n (d:Dec):h1N (bD d)=h1N d:=by cases d<;>simp only[bD,h1N]
theorem m1P:∀x:Exp,1≤x.cnt
 | .app f x=>by have:=m1P f;simp only[Exp.cnt];omega
 | .int _=>by simp only[Exp.cnt];omega
 | .tru=>by simp only[Exp.cnt];omega
 | .fls=>by simp only[Exp.cnt];omega
 | .unit=>by simp only[Exp.cnt];omega
 | .var _=>by simp only[Exp.cnt];omega
 | .con _=>by simp only[Exp.cnt];omega
 | .fn _ _=>by simp only[Exp.cnt];omega
 | .pair _ _=>by simp only[Exp.cnt];omega
 | .lets _ _=>by simp only[Exp.cnt];omega
 | .ite _ _ _=>by simp only[Exp.cnt];omega
 | .cases _ _=>by simp only[Exp.cnt];omega
 | .bin _ _ _=>by simp only[Exp.cnt];omega
 | .ann _ _=>by simp only[Exp.cnt];omega
theorem h2b (d:Dec):1≤d.cnt:=by cases d<;>(simp only[Dec.cnt];omega)
theorem x1z {d:Dec}:∀{l:List Dec},d∈l→k1M l→d.Ok∧d.cnt≤d1y l
 |e::l,h,ho=>by
  simp only[d1y]
  rcases List.mem_cons.1 h with rfl|h
  ·exact⟨ho.1,by omega⟩
  ·have:=x1z h ho.2
   exact⟨this.1,by omega⟩
theorem x1A:∀l:List Dec,l.length≤d1y l
 |[]=>Nat.le_refl _
 |d::l=>by have:=x1A l;have:=h2b d;simp only[List.length_cons,d1y];omega
theorem p1x {b:Pat×Exp}:∀{l:List (Pat×Exp)},b∈l→i1h l→b.1.Ok∧b.2.Ok∧b.1.cnt+b.2.cnt≤c1G l
 |(p,x)::l,h,ho=>by
  simp only[c1G]
  rcases List.mem_cons.1 h with rfl|h
  ·exact⟨ho.1,ho.2.1,by dsimp only;omega⟩
  ·have:=p1x h ho.2.2
   exact⟨this.1,this.2.1,by omega⟩
theorem u1B:∀l:List (Pat×Exp),l.length≤c1G l
 |[]=>Nat.le_refl _
 |(p,x)::l=>by have:=u1B l;have:=m1P x;simp only[List.length_cons,c1G];omega
structure KidsOk (x:Exp):Prop where
 kids:∀k∈c1l x,k.Ok∧k.cnt<x.cnt
 kidsL:(c1l x).length≤x.cnt+2
 pats:∀k∈c1m x,k.Ok∧k.cnt≤x.cnt
 patsL:(c1m x).length≤x.cnt
 decs:∀k∈c1w x,k.Ok∧k.cnt<x.cnt
 decsL:(c1w x).length≤x.cnt
 tys:∀k∈d1z x,k.Ok∧k.cnt≤x.cnt
 tysL:(d1z x).length≤x.cnt
theorem e2B {x:Exp} (h:x.Ok):KidsOk x:=by
 have hp:=m1P x
 cases x with
 |fn p x=>
  simp only[Exp.cnt] at hp
  exact⟨fun k hk=>by simp only[c1l,List.mem_singleton] at hk;subst hk;exact⟨h.2,by simp only[Exp.cnt];omega⟩,by simp [c1l],fun k hk=>by simp only[c1m,List.mem_singleton] at hk;subst hk;exact⟨h.1,by simp only[Exp.cnt];omega⟩,by simp only[c1m,Exp.cnt,List.length_cons,List.length_nil];omega,fun k hk=>by simp [c1w] at hk,by simp [c1w],fun k hk=>by simp [d1z] at hk,by simp [d1z]⟩
 |app f x=>
  have q1:=m1P f
  have q2:=m1P x
  exact⟨fun k hk=>by
   simp only[c1l,List.mem_cons,List.not_mem_nil,or_false] at hk
   rcases hk with rfl|rfl
   ·exact⟨h.1,by simp only[Exp.cnt];omega⟩
   ·exact⟨h.2,by simp only[Exp.cnt];omega⟩,by simp [c1l],fun k hk=>by simp [c1m] at hk,by simp [c1m],fun k hk=>by simp [c1w] at hk,by simp [c1w],fun k hk=>by simp [d1z] at hk,by simp [d1z]⟩
 |pair f x=>
  exact⟨fun k hk=>by
   simp only[c1l,List.mem_cons,List.not_mem_nil,or_false] at hk
   rcases hk with rfl|rfl
   ·exact⟨h.1,by simp only[Exp.cnt];omega⟩
   ·exact⟨h.2,by simp only[Exp.cnt];omega⟩,by simp [c1l],fun k hk=>by simp [c1m] at hk,by simp [c1m],fun k hk=>by simp [c1w] at hk,by simp [c1w],fun k hk=>by simp [d1z] at hk,by simp [d1z]⟩
 |bin o f x=>
  exact⟨fun k hk=>by
   simp only[c1l,List.mem_cons,List.not_mem_nil,or_false] at hk
   rcases hk with rfl|rfl
   ·exact⟨h.2.1,by simp only[Exp.cnt];omega⟩
   ·exact⟨h.2.2,by simp only[Exp.cnt];omega⟩,by simp [c1l],fun k hk=>by simp [c1m] at hk,by simp [c1m],fun k hk=>by simp [c1w] at hk,by simp [c1w],fun k hk=>by simp [d1z] at hk,by simp [d1z]⟩
 |ite c f x=>
  exact⟨fun k hk=>by
   simp only[c1l,List.mem_cons,List.not_mem_nil,or_false] at hk
   rcases hk with rfl|rfl|rfl
   ·exact⟨h.1,by simp only[Exp.cnt];omega⟩
   ·exact⟨h.2.1,by simp only[Exp.cnt];omega⟩
   ·exact⟨h.2.2,by simp only[Exp.cnt];omega⟩,by simp only[c1l,List.length_cons,List.length_nil];omega,fun k hk=>by simp [c1m] at hk,by simp [c1m],fun k hk=>by simp [c1w] at hk,by simp [c1w],fun k hk=>by simp [d1z] at hk,by simp [d1z]⟩
 |lets l x=>
  have ql:=x1A l
  exact⟨fun k hk=>by simp only[c1l,List.mem_singleton] at hk;subst hk;exact⟨h.2,by simp only[Exp.cnt];omega⟩,by simp [c1l],fun k hk=>by simp [c1m] at hk,by simp [c1m],fun k hk=>by
   have:=x1z (l:=l) hk h.1
   exact⟨this.1,by simp only[Exp.cnt];omega⟩,by simp only[c1w,Exp.cnt];omega,fun k hk=>by simp [d1z] at hk,by simp [d1z]⟩
 |cases x l=>
  have ql:=u1B l
  exact⟨fun k hk=>by
   simp only[c1l,List.mem_cons,List.mem_map] at hk
   rcases hk with rfl|⟨b,hb,rfl⟩
   ·exact⟨h.1,by simp only[Exp.cnt];omega⟩
   ·have:=p1x hb h.2
    exact⟨this.2.1,by simp only[Exp.cnt];omega⟩,by simp only[c1l,List.length_cons,List.length_map,Exp.cnt];omega,fun k hk=>by
   simp only[c1m,List.mem_map] at hk
   obtain⟨b,hb,rfl⟩:=hk
   have:=p1x hb h.2
   exact⟨this.1,by simp only[Exp.cnt];omega⟩,by simp only[c1m,List.length_map,Exp.cnt];omega,fun k hk=>by simp [c1w] at hk,by simp [c1w],fun k hk=>by simp [d1z] at hk,by simp [d1z]⟩
 |ann x t=>
  simp only[Exp.cnt] at hp
  exact⟨fun k hk=>by simp only[c1l,List.mem_singleton] at hk;subst hk;exact⟨h.1,by simp only[Exp.cnt];omega⟩,by simp [c1l],fun k hk=>by simp [c1m] at hk,by simp [c1m],fun k hk=>by simp [c1w] at hk,by simp [c1w],fun k hk=>by simp only[d1z,List.mem_singleton] at hk;subst hk;exact⟨h.2,by simp only[Exp.cnt];omega⟩,by simp only[d1z,Exp.cnt,List.length_cons,List.length_nil];omega⟩
 |_=>exact⟨fun k hk=>by simp [c1l] at hk,by simp [c1l],fun k hk=>by simp [c1m] at hk,by simp [c1m],fun k hk=>by simp [c1w] at hk,by simp [c1w],fun k hk=>by simp [d1z] at hk,by simp [d1z]⟩
theorem e2C {d:Dec} (h:d.Ok):(k1N d).Ok∧(k1N d).cnt<d.cnt∧(∀t∈h1N d,t.Ok∧t.cnt≤d.cnt)∧(h1N d).length≤1:=by
 cases d with
 |val a n t x=>
  refine⟨h.2.2.2,by simp only[k1N,Dec.cnt];omega,fun k hk=>?_,?_⟩
  ·cases t with
   |none=>simp [h1N] at hk
   |some t=>simp [h1N] at hk;subst hk;exact⟨h.2.2.1,by simp only[Dec.cnt,n1A];omega⟩
  ·cases t<;>simp [h1N]
 |func a n ps t x=>
  refine⟨h.2.2.2.2,by simp only[k1N,Dec.cnt];omega,fun k hk=>?_,?_⟩
  ·cases t with
   |none=>simp [h1N] at hk
   |some t=>simp [h1N] at hk;subst hk;exact⟨h.2.2.2.1,by simp only[Dec.cnt,n1A];omega⟩
  ·cases t<;>simp [h1N]
end Go.Pa
end

section
/- TREES: words for what recurs in printed trees (by ktz.py) -/
set_option linter.unusedVariables false
open Go Go.Eng
open IntKind (wrap)
namespace Go.Proofs
abbrev zpR6 (K:List (List AV)→List (List AV)→List (List AV)→List (List AV)→List (List AV)→List (List AV)→KT):KT:=.exR fun v0=>.exR fun v1=>.exR fun v2=>.exR fun v3=>.exR fun v4=>.exR fun v5=>K v0 v1 v2 v3 v4 v5
abbrev zpR5 (K:List (List AV)→List (List AV)→List (List AV)→List (List AV)→List (List AV)→KT):KT:=.exR fun v0=>.exR fun v1=>.exR fun v2=>.exR fun v3=>.exR fun v4=>K v0 v1 v2 v3 v4
abbrev zpI3 (K:Int→Int→Int→KT):KT:=.exI fun v0=>.exI fun v1=>.exI fun v2=>K v0 v1 v2
abbrev zpI2 (K:Int→Int→KT):KT:=.exI fun v0=>.exI fun v1=>K v0 v1
abbrev zpN (n:Nat) (l:List (List AV)):AV:=.slice n l .no
abbrev zpP:AV:=.ptr 0 0
abbrev zpR (v:AV) (h:Heap):CRes:=⟨.ret v,.none,h⟩
abbrev zpQ (v:AV) (h:Heap):CRes:=⟨.panic v,.none,h⟩
abbrev zpS (n:Nat) (t:List (Nat×AV)) (l:List (Nat×Nat×List AV)) (h:Heap) (k:Nat):St:=⟨tm2 n t,lm2 n l,⟨h,[],.none,k⟩⟩
abbrev zp1 (x0 x1 x2:Int) (x3 x4 x5 x6 x7:List (List AV)):List AV:=[vI x0,vI x1,vI x2,zpN 1 x3,zpN 5 x4,zpN 8 x5,zpN 9 x6,zpN 4 x7]
abbrev zp3 (g:FuncId) (a:List AV) (h:Heap) (K:Bool→KT):KT:=.exB fun v0=>.call g a .none h ⟨.ret (vB v0),.none,h⟩ (K v0)
abbrev zp4 (x0 x1:Int) (x2:ByteArray) (x3 x4 x5 x6 x7 x8:List (List AV)):List AV:=[vI x0,vI x1,vS x2,zpN 1 x3,zpN 4 x4,zpN 8 x5,zpN 2 x6,zpN 5 x7,zpN 5 x8]
end Go.Proofs
end

section
/- TREES, printed by kt.py out of y20a.txt -/
open Go Go.Eng
open IntKind (wrap)
namespace Go.Proofs
set_option linter.unusedVariables false
set_option maxRecDepth 100000
@[irreducible] noncomputable def j1p (p q:List (List AV)):KT:=(kt6 a1E [.slice 8 p .no,.slice 8 q .no] []).F
@[irreducible] noncomputable def h1T (p q:List (List AV)):KT:=(kt6 a1E [.slice 8 p .full,.slice 8 q .full] []).F
@[irreducible] noncomputable def j1q (p q:List (List AV)):KT:=(kt6 b1z [.slice 9 p .no,.slice 9 q .no] []).F
theorem m1i (k o v p a b c d):(ktc6 b1E [AV.agg [vI k,vI o,vI v,AV.slice 1 p Own.no,AV.slice 5 a Own.no,AV.slice 8 b Own.no,AV.slice 9 c Own.no,AV.slice 4 d Own.no]] []).prune (PH.of 56339622453)=
 zpI3 fun i i1 i2=>.call b1h [zpP,.slice 8 [zp1 k o v p a b c d] .full] .none [[vI 0,vI 0,vI 0]] (zpR zpP [[vI i,vI i1,vI i2]]) (.branch (decide (i2>100)) (.ret (zpR (vI 4) [])) (.alt (.call b1c [.agg (zp1 k o v p a b c d)] .none [[vI i,vI i1,vI i2],[vI 0]] (zpR (.tuple []) [[vI i,vI i1,vI i2],[vI 0]]) (.ret (zpR (vI 0) []))) (.exI fun i3=>.call b1c [.agg (zp1 k o v p a b c d)] .none [[vI i,vI i1,vI i2],[vI 0]] (zpQ (.iface a1a (vI i3)) [[vI i,vI i1,vI i2],[vI 0]]) (.ret (zpR (vI i3) []))))):=by kernel_rfl
theorem s1H (k o v p a b c d k2 o2 v2 p2 a2 b2 c2 d2):(kt6 b1N [AV.agg [vI k,vI o,vI v,AV.slice 1 p Own.no,AV.slice 5 a Own.no,AV.slice 8 b Own.no,AV.slice 9 c Own.no,AV.slice 4 d Own.no],AV.agg [vI k2,vI o2,vI v2,AV.slice 1 p2 Own.no,AV.slice 5 a2 Own.no,AV.slice 8 b2 Own.no,AV.slice 9 c2 Own.no,AV.slice 4 d2 Own.no]] []).prune (PH.of 6)=
 zp3 a1E [.slice 8 [zp1 k o v p a b c d] .full,.slice 8 [zp1 k2 o2 v2 p2 a2 b2 c2 d2] .full] [] (fun b1=>.ret (zpR (vB b1) [])):=by kernel_rfl
@[irreducible] noncomputable def l1n (p q:List (List AV)):KT:=kt6 a1E [AV.slice 8 p Own.no,AV.slice 8 q Own.no] []
theorem q1P (p q):(kt6 a1E [AV.slice 8 p Own.no,AV.slice 8 q Own.no] []).prune (PH.of 53)=
 .branch ((↑p.length:Int)!=(↑q.length:Int)) (.ret (zpR (vB false) [])) ((l1n p q).F):=by kernel_rfl
@[irreducible] noncomputable def k1j (p q:List (List AV)):KT:=kt6 a1E [AV.slice 8 p Own.full,AV.slice 8 q Own.full] []
theorem q1f (p q):(kt6 a1E [AV.slice 8 p Own.full,AV.slice 8 q Own.full] []).prune (PH.of 53)=
 .branch ((↑p.length:Int)!=(↑q.length:Int)) (.ret (zpR (vB false) [])) ((k1j p q).F):=by kernel_rfl
@[irreducible] noncomputable def l1o (p q:List (List AV)):KT:=kt6 b1z [AV.slice 9 p Own.no,AV.slice 9 q Own.no] []
theorem q1Q (p q):(kt6 b1z [AV.slice 9 p Own.no,AV.slice 9 q Own.no] []).prune (PH.of 53)=
 .branch ((↑p.length:Int)!=(↑q.length:Int)) (.ret (zpR (vB false) [])) ((l1o p q).F):=by kernel_rfl
@[irreducible] noncomputable def n1M (p q:List (List AV)) (i:Nat):KT:=KT.round Pg cfg0 rs0 kc6 (j1p p q) (zpS 84 [(0,zpN 8 p),(1,zpN 8 q),(5,vI (↑i:Int))] [] [] 0)
theorem q1g (p q) (i:Nat):(KT.round Pg cfg0 rs0 kc6 (j1p p q) (zpS 84 [(0,zpN 8 p),(1,zpN 8 q),(5,vI (↑i:Int))] [] [] 0)).prune (PH.of 26445298749869)=
 .branch (decide ((↑i:Int)<(↑p.length:Int))) (zpI3 fun i1 i2 i3=>zpR5 fun l l1 l2 l3 l4=>.row p (↑i:Int) (zp1 i1 i2 i3 l l1 l2 l3 l4) (zpI3 fun i4 i5 i6=>zpR5 fun l5 l6 l7 l8 l9=>.row q (↑i:Int) (zp1 i4 i5 i6 l5 l6 l7 l8 l9) (.stage (.branch (i1 !=i4) (.out (.out (.ret (zpR (vB false) [])))) (.branch (i2 !=i5) (.out (.out (.ret (zpR (vB false) [])))) (.branch (i3 !=i6) (.out (.out (.ret (zpR (vB false) [])))) (zp3 a1R [zpN 1 l,zpN 1 l5] [] (fun b=>.branch (!b) (.out (.out (.ret (zpR (vB false) [])))) (.done (zpS 84 [(0,zpN 8 p),(1,zpN 8 q),(5,vI (↑i:Int)),(6,.lp 6 0 0),(7,.lp 7 0 0)] [(6,0,zp1 i1 i2 i3 l l1 l2 l3 l4),(7,0,zp1 i4 i5 i6 l5 l6 l7 l8 l9)] [] 0))))))) ((((((((((((((((((n1M p q i).T.I i1).I i2).I i3).R l).R l1).R l2).R l3).R l4).T.I i4).I i5).I i6).R l5).R l6).R l7).R l8).R l9).T.K)))) (.out (.ret (zpR (vB true) []))):=by kernel_rfl
theorem m1X (p q) (i:Nat) (i1 i2 i3 l l1 l2 l3 l4 i4 i5 i6 l5 l6 l7 l8 l9):((((((((((((((((((n1M p q i).T.I i1).I i2).I i3).R l).R l1).R l2).R l3).R l4).T.I i4).I i5).I i6).R l5).R l6).R l7).R l8).R l9).T.K (zpS 84 [(0,zpN 8 p),(1,zpN 8 q),(5,vI (↑i:Int)),(6,.lp 6 0 0),(7,.lp 7 0 0)] [(6,0,zp1 i1 i2 i3 l l1 l2 l3 l4),(7,0,zp1 i4 i5 i6 l5 l6 l7 l8 l9)] [] 0)).prune (PH.of 7127460405)=
 zp3 a1X [zpN 5 l1,zpN 5 l6] [] (fun b=>.branch (!b) (.out (.ret (zpR (vB false) []))) (zp3 a1E [zpN 8 l2,zpN 8 l7] [] (fun b1=>.branch (!b1) (.out (.ret (zpR (vB false) []))) (zp3 b1z [zpN 9 l3,zpN 9 l8] [] (fun b2=>.branch (!b2) (.out (.ret (zpR (vB false) []))) (zp3 a1Q [zpN 4 l4,zpN 4 l9] [] (fun b3=>.branch (!b3) (.out (.ret (zpR (vB false) []))) (.done (zpS 84 [(0,zpN 8 p),(1,zpN 8 q),(5,vI (wrap .i64 ((↑i:Int)+1)))] [] [] 0))))))))):=by kernel_rfl
@[irreducible] noncomputable def m1j (p q:List (List AV)) (i:Nat):KT:=KT.round Pg cfg0 rs0 kc6 (h1T p q) (zpS 84 [(0,.slice 8 p .full),(1,.slice 8 q .full),(5,vI (↑i:Int))] [] [] 0)
theorem n1Y (p q) (i:Nat):(KT.round Pg cfg0 rs0 kc6 (h1T p q) (zpS 84 [(0,.slice 8 p .full),(1,.slice 8 q .full),(5,vI (↑i:Int))] [] [] 0)).prune (PH.of 26445298749869)=
 .branch (decide ((↑i:Int)<(↑p.length:Int))) (zpI3 fun i1 i2 i3=>zpR5 fun l l1 l2 l3 l4=>.row p (↑i:Int) (zp1 i1 i2 i3 l l1 l2 l3 l4) (zpI3 fun i4 i5 i6=>zpR5 fun l5 l6 l7 l8 l9=>.row q (↑i:Int) (zp1 i4 i5 i6 l5 l6 l7 l8 l9) (.stage (.branch (i1 !=i4) (.out (.out (.ret (zpR (vB false) [])))) (.branch (i2 !=i5) (.out (.out (.ret (zpR (vB false) [])))) (.branch (i3 !=i6) (.out (.out (.ret (zpR (vB false) [])))) (zp3 a1R [zpN 1 l,zpN 1 l5] [] (fun b=>.branch (!b) (.out (.out (.ret (zpR (vB false) [])))) (.done (zpS 84 [(0,.slice 8 p .full),(1,.slice 8 q .full),(5,vI (↑i:Int)),(6,.lp 6 0 0),(7,.lp 7 0 0)] [(6,0,zp1 i1 i2 i3 l l1 l2 l3 l4),(7,0,zp1 i4 i5 i6 l5 l6 l7 l8 l9)] [] 0))))))) ((((((((((((((((((m1j p q i).T.I i1).I i2).I i3).R l).R l1).R l2).R l3).R l4).T.I i4).I i5).I i6).R l5).R l6).R l7).R l8).R l9).T.K)))) (.out (.ret (zpR (vB true) []))):=by kernel_rfl
theorem m1k (p q) (i:Nat) (i1 i2 i3 l l1 l2 l3 l4 i4 i5 i6 l5 l6 l7 l8 l9):((((((((((((((((((m1j p q i).T.I i1).I i2).I i3).R l).R l1).R l2).R l3).R l4).T.I i4).I i5).I i6).R l5).R l6).R l7).R l8).R l9).T.K (zpS 84 [(0,.slice 8 p .full),(1,.slice 8 q .full),(5,vI (↑i:Int)),(6,.lp 6 0 0),(7,.lp 7 0 0)] [(6,0,zp1 i1 i2 i3 l l1 l2 l3 l4),(7,0,zp1 i4 i5 i6 l5 l6 l7 l8 l9)] [] 0)).prune (PH.of 7127460405)=
 zp3 a1X [zpN 5 l1,zpN 5 l6] [] (fun b=>.branch (!b) (.out (.ret (zpR (vB false) []))) (zp3 a1E [zpN 8 l2,zpN 8 l7] [] (fun b1=>.branch (!b1) (.out (.ret (zpR (vB false) []))) (zp3 b1z [zpN 9 l3,zpN 9 l8] [] (fun b2=>.branch (!b2) (.out (.ret (zpR (vB false) []))) (zp3 a1Q [zpN 4 l4,zpN 4 l9] [] (fun b3=>.branch (!b3) (.out (.ret (zpR (vB false) []))) (.done (zpS 84 [(0,.slice 8 p .full),(1,.slice 8 q .full),(5,vI (wrap .i64 ((↑i:Int)+1)))] [] [] 0))))))))):=by kernel_rfl
@[irreducible] noncomputable def n1N (p q:List (List AV)) (i:Nat):KT:=KT.round Pg cfg0 rs0 kc6 (j1q p q) (zpS 85 [(0,zpN 9 p),(1,zpN 9 q),(5,vI (↑i:Int))] [] [] 0)
theorem q1h (p q) (i:Nat):(KT.round Pg cfg0 rs0 kc6 (j1q p q) (zpS 85 [(0,zpN 9 p),(1,zpN 9 q),(5,vI (↑i:Int))] [] [] 0)).prune (PH.of 51650974125)=
 .branch (decide ((↑i:Int)<(↑p.length:Int))) (zpI2 fun i1 i2=>.exS fun s=>zpR6 fun l l1 l2 l3 l4 l5=>.row p (↑i:Int) (zp4 i1 i2 s l l1 l2 l3 l4 l5) (zpI2 fun i3 i4=>.exS fun s1=>zpR6 fun l6 l7 l8 l9 l10 l11=>.row q (↑i:Int) (zp4 i3 i4 s1 l6 l7 l8 l9 l10 l11) (.stage (.branch (i1 !=i3) (.out (.out (.ret (zpR (vB false) [])))) (.branch (!s.toList==s1.toList) (.out (.out (.ret (zpR (vB false) [])))) (zp3 a1R [zpN 1 l,zpN 1 l6] [] (fun b=>.branch (!b) (.out (.out (.ret (zpR (vB false) [])))) (.done (zpS 85 [(0,zpN 9 p),(1,zpN 9 q),(5,vI (↑i:Int)),(6,.lp 6 0 0),(7,.lp 7 0 0)] [(6,0,zp4 i1 i2 s l l1 l2 l3 l4 l5),(7,0,zp4 i3 i4 s1 l6 l7 l8 l9 l10 l11)] [] 0)))))) ((((((((((((((((((((n1N p q i).T.I i1).I i2).S s).R l).R l1).R l2).R l3).R l4).R l5).T.I i3).I i4).S s1).R l6).R l7).R l8).R l9).R l10).R l11).T.K)))) (.out (.ret (zpR (vB true) []))):=by kernel_rfl
theorem m1Y (p q) (i:Nat) (i1 i2) (s:ByteArray) (l l1 l2 l3 l4 l5 i3 i4) (s1:ByteArray) (l6 l7 l8 l9 l10 l11):((((((((((((((((((((n1N p q i).T.I i1).I i2).S s).R l).R l1).R l2).R l3).R l4).R l5).T.I i3).I i4).S s1).R l6).R l7).R l8).R l9).R l10).R l11).T.K (zpS 85 [(0,zpN 9 p),(1,zpN 9 q),(5,vI (↑i:Int)),(6,.lp 6 0 0),(7,.lp 7 0 0)] [(6,0,zp4 i1 i2 s l l1 l2 l3 l4 l5),(7,0,zp4 i3 i4 s1 l6 l7 l8 l9 l10 l11)] [] 0)).prune (PH.of 3649259727413)=
 zp3 a1Q [zpN 4 l1,zpN 4 l7] [] (fun b=>.branch (!b) (.out (.ret (zpR (vB false) []))) (zp3 a1E [zpN 8 l2,zpN 8 l8] [] (fun b1=>.branch (!b1) (.out (.ret (zpR (vB false) []))) (zp3 d1k [zpN 2 l3,zpN 2 l9] [] (fun b2=>.branch (!b2) (.out (.ret (zpR (vB false) []))) (zp3 d1l [zpN 5 l4,zpN 5 l10] [] (fun b3=>.branch (!b3) (.out (.ret (zpR (vB false) []))) (zp3 d1m [zpN 5 l5,zpN 5 l11] [] (fun b4=>.branch (!b4) (.out (.ret (zpR (vB false) []))) (.done (zpS 85 [(0,zpN 9 p),(1,zpN 9 q),(5,vI (wrap .i64 ((↑i:Int)+1)))] [] [] 0))))))))))):=by kernel_rfl
end Go.Proofs
end

section
/- PARSE: expressions: places make no difference (sameness, depth); RightExp -/
set_option linter.unusedVariables false
set_option linter.unusedSimpArgs false
set_option maxRecDepth 100000
open Go Go.Eng Go.Pa
open Go.Lx (T Tok)
namespace Go.Proofs
abbrev f1D (l:List Exp):List (List AV):=avss (l.map Exp.row)
abbrev k1n (l:List Dec):List (List AV):=avss (l.map Dec.row)
theorem k2a (x:Exp):XKs x=(c1l x).map Exp.row:=by
 cases x with
 |cases x l=>simp only[XKs,c1l,r1u,List.map_cons,List.map_map];rfl
 |_=>simp only[XKs,c1l,List.map_cons,List.map_nil]
theorem k2b (x:Exp):XPs x=(c1m x).map Pat.row:=by
 cases x with
 |cases x l=>simp only[XPs,c1m,List.map_map];rfl
 |_=>simp only[XPs,c1m,List.map_cons,List.map_nil]
theorem k2c (x:Exp):XDs x=(c1w x).map Dec.row:=by
 cases x with
 |lets l x=>simp only[XDs,c1w,u1A]
 |_=>simp only[XDs,c1w,List.map_nil]
theorem k2d (x:Exp):XTs x=(d1z x).map Ty.row:=by cases x<;>simp only[XTs,d1z,List.map_cons,List.map_nil]
theorem g2G (d:Dec):DTs d=(h1N d).map Ty.row:=by cases d<;>rfl
theorem g2H (d:Dec):DEs d=[k1N d].map Exp.row:=by cases d<;>rfl
theorem i2l (l:List Pat):avss (l.map Pat.row)=i1W l:=by rw[g1J,List.map_map];rfl
theorem g2I (l:List Ty):avss (l.map Ty.row)=n1l l:=by rw[g1J,List.map_map];rfl
theorem xk_b (x:Exp):XK (bE x)=XK x∧XO (bE x)=XO x∧XV (bE x)=XV x∧XP (bE x)=XP x:=by cases x<;>exact⟨rfl,rfl,rfl,rfl⟩
theorem dk_b (d:Dec):DK (bD d)=DK d∧DN (bD d)=DN d∧DP (bD d)=DP d:=by cases d<;>exact⟨rfl,rfl,rfl⟩
theorem XP_ok {x:Exp} (h:x.Ok):(XP x).length≤8:=by
 cases x with
 |var p=>exact h.1
 |con p=>exact h.1
 |_=>simp [XP]
mutual
theorem j1Q:∀(x:Exp) (m d:Nat),Ck.wmR m d (bE x).row=Ck.wmR m d x.row
 | .fn p x,m,d=>by simp only[bE,Exp.row,expR,cp,Ck.i1o,Ck.wms,j1Q x]
 | .app f x,m,d=>by simp only[bE,Exp.row,expR,cp,Ck.i1o,Ck.wms,j1Q f,j1Q x]
 | .pair f x,m,d=>by simp only[bE,Exp.row,expR,cp,Ck.i1o,Ck.wms,j1Q f,j1Q x]
 | .lets l x,m,d=>by simp only[bE,Exp.row,expR,cp,Ck.i1o,Ck.wms,j1Q x,g2J l]
 | .ite c f x,m,d=>by simp only[bE,Exp.row,expR,cp,Ck.i1o,Ck.wms,j1Q c,j1Q f,j1Q x]
 | .cases x l,m,d=>by
  have e:(bCs l).map (fun b=>b.1.row)=l.map fun b=>b.1.row:=by rw[s1l,List.map_map];rfl
  simp only[bE,Exp.row,expR,cp,Ck.i1o,Ck.wms,j1Q x,g2K l,e]
 | .bin o f x,m,d=>by simp only[bE,Exp.row,expR,cp,Ck.i1o,Ck.wms,j1Q f,j1Q x]
 | .ann x t,m,d=>by simp only[bE,Exp.row,expR,cp,Ck.i1o,Ck.wms,j1Q x]
 | .int _,m,d=>rfl
 | .tru,m,d=>rfl
 | .fls,m,d=>rfl
 | .unit,m,d=>rfl
 | .var _,m,d=>rfl
 | .con _,m,d=>rfl
theorem wm_bD:∀(x:Dec) (m d:Nat),Ck.wmR m d (bD x).row=Ck.wmR m d x.row
 | .val a n t x,m,d=>by simp only[bD,Dec.row,decR,cp,Ck.w1H,Ck.wms,j1Q x]
 | .func a n ps t x,m,d=>by simp only[bD,Dec.row,decR,cp,Ck.w1H,Ck.wms,j1Q x]
theorem g2J:∀(l:List Dec) (m d:Nat),Ck.wms m d (j1h (bDs l))=Ck.wms m d (j1h l)
 |[],m,d=>rfl
 |x::l,m,d=>by simp only[bDs,j1h,Ck.wms,wm_bD x,g2J l]
theorem g2K:∀(l:List (Pat×Exp)) (m d:Nat),Ck.wms m d (f1e (bCs l))=Ck.wms m d (f1e l)
 |[],m,d=>rfl
 |(p,x)::l,m,d=>by simp only[bCs,f1e,Ck.wms,j1Q x,g2K l]
end
theorem k2e {x y:Exp} (h:bE x=bE y):Xdep x=Xdep y:=by
 unfold Xdep
 simp only[Ck.wms]
 rw[←j1Q x,←j1Q y,h]
def EOk (N:Nat):Prop:=∀l l':List Exp,l.length<SM→(∀x∈l,x.Ok∧x.cnt≤N)→l.map bE=l'.map bE→evp a1E [.slice 8 (f1D l) .no,.slice 8 (f1D l') .no] .none []=some ⟨.ret (vB true),.none,[]⟩
def DOk (N:Nat):Prop:=∀l l':List Dec,l.length<SM→(∀x∈l,x.Ok∧x.cnt≤N)→l.map bD=l'.map bD→evp b1z [.slice 9 (k1n l) .no,.slice 9 (k1n l') .no] .none []=some ⟨.ret (vB true),.none,[]⟩
structure ERound (x y:Exp):Prop where
 k:XK x=XK y
 o:XO x=XO y
 v:XV x=XV y
 texts:evp a1R [.slice 1 (c1o (XP x)) .no,.slice 1 (c1o (XP y)) .no] .none []=some ⟨.ret (vB true),.none,[]⟩
 pats:evp a1X [.slice 5 (avss (XPs x)) .no,.slice 5 (avss (XPs y)) .no] .none []=some ⟨.ret (vB true),.none,[]⟩
 exps:evp a1E [.slice 8 (avss (XKs x)) .no,.slice 8 (avss (XKs y)) .no] .none []=some ⟨.ret (vB true),.none,[]⟩
 decs:evp b1z [.slice 9 (avss (XDs x)) .no,.slice 9 (avss (XDs y)) .no] .none []=some ⟨.ret (vB true),.none,[]⟩
 tys:evp a1Q [.slice 4 (avss (XTs x)) .no,.slice 4 (avss (XTs y)) .no] .none []=some ⟨.ret (vB true),.none,[]⟩
theorem d2K {N:Nat} (hN:N≤1000000) (ih:∀M,M<N→EOk M∧DOk M) {x y:Exp} (ho:x.Ok) (hc:x.cnt≤N) (hb:bE x=bE y):ERound x y:=by
 have K:=e2B ho
 have hp:=m1P x
 obtain⟨a1,a2,a3,a4⟩:=xk_b x
 obtain⟨b1,b2,b3,b4⟩:=xk_b y
 rw[hb] at a1 a2 a3 a4
 have eK:(c1l x).map bE=(c1l y).map bE:=by rw[←g2j,←g2j,hb]
 have eP:c1m x=c1m y:=by rw[←g2k x,←g2k y,hb]
 have eD:(c1w x).map bD=(c1w y).map bD:=by rw[←g2l,←g2l,hb]
 have eT:d1z x=d1z y:=by rw[←i2G x,←i2G y,hb]
 obtain⟨i1,i2⟩:=ih (N-1) (by omega)
 refine⟨by rw[←a1,b1],by rw[←a2,b2],by rw[←a3,b3],?_,?_,?_,?_,?_⟩
 ·rw[show XP x=XP y by rw[←a4,b4]]
  exact t1s (by have:=XP_ok ho;rw[show XP x=XP y by rw[←a4,b4]] at this;unfold SM;omega)
 ·rw[k2b,k2b,←eP,i2l]
  exact a2G 1000000 _ (by have:=K.patsL;unfold SM;omega) (fun t ht=>(K.pats t ht).1) (fun t ht=>by have:=(K.pats t ht).2;omega)
 ·rw[k2a,k2a]
  exact i1 _ _ (by have:=K.kidsL;unfold SM;omega) (fun t ht=>⟨(K.kids t ht).1,by have:=(K.kids t ht).2;omega⟩) eK
 ·rw[k2c,k2c]
  exact i2 _ _ (by have:=K.decsL;unfold SM;omega) (fun t ht=>⟨(K.decs t ht).1,by have:=(K.decs t ht).2;omega⟩) eD
 ·rw[k2d,k2d,←eT,g2I]
  exact v1t 1000000 _ (by have:=K.tysL;unfold SM;omega) (fun t ht=>(K.tys t ht).1) (fun t ht=>by have:=(K.tys t ht).2;omega)
theorem o1x {l:List Exp} {i:Nat} (h:i<l.length):(0:Int)≤(i:Int)∧(f1D l)[(i:Int).toNat]? =some [vI (XK l[i]),vI (XO l[i]),vI (XV l[i]),.slice 1 (c1o (XP l[i])) .no,.slice 5 (avss (XPs l[i])) .no,.slice 8 (avss (XKs l[i])) .no,.slice 9 (avss (XDs l[i])) .no,.slice 4 (avss (XTs l[i])) .no]:=
 ⟨Int.natCast_nonneg i,by rw[Int.toNat_natCast,g1y (r:=l[i].row) (by rw[List.getElem?_map,List.getElem?_eq_getElem h];rfl),b1C]⟩
theorem y1e {l:List Dec} {i:Nat} (h:i<l.length):(0:Int)≤(i:Int)∧(k1n l)[(i:Int).toNat]? =some [vI (DK l[i]),vI (DA l[i]),vS (bs (DN l[i])),.slice 1 (c1o (DP l[i])) .no,.slice 4 (avss (DTs l[i])) .no,.slice 8 (avss (DEs l[i])) .no,.slice 2 [] .no,.slice 5 [] .no,.slice 5 [] .no]:=
 ⟨Int.natCast_nonneg i,by rw[Int.toNat_natCast,g1y (r:=l[i].row) (by rw[List.getElem?_map,List.getElem?_eq_getElem h];rfl),m1T]⟩
theorem g2L {α β:Type} {f:α→β} {l l':List α} (h:l.map f=l'.map f) {i:Nat} (h1:i<l.length) (h2:i<l'.length):f l[i]=f l'[i]:=by
 have:=congrArg (fun m=>m[i]?) h
 simp only[List.getElem?_map,List.getElem?_eq_getElem h1,List.getElem?_eq_getElem h2,Option.map_some,Option.some.injEq] at this
 exact this
theorem d2L {α β:Type} {f:α→β} {l l':List α} (h:l.map f=l'.map f):l'.length=l.length:=by
 have:=congrArg List.length h
 simpa using this.symm
theorem i2m:evp d1k [.slice 2 [] .no,.slice 2 [] .no] .none []=some ⟨.ret (vB true),.none,[]⟩:=ac 60 (by kernel_rfl)
theorem i2n:evp d1l [.slice 5 [] .no,.slice 5 [] .no] .none []=some ⟨.ret (vB true),.none,[]⟩:=ac 60 (by kernel_rfl)
theorem i2o:evp d1m [.slice 5 [] .no,.slice 5 [] .no] .none []=some ⟨.ret (vB true),.none,[]⟩:=ac 60 (by kernel_rfl)
theorem x1b {α:Type} [BEq α] [LawfulBEq α] {a b:α} (h:a=b):(a !=b)=false:=by subst h;simp
theorem tx_r {a b:ByteArray} (h:a=b):(!a.toList==b.toList)=false:=by subst h;simp
theorem f2R {N:Nat} (hN:N≤1000000) (ih:∀M,M<N→EOk M∧DOk M):EOk N:=by
 intro l l' hl ho hb
 unfold SM at hl
 have hll:=d2L hb
 have hY:(l1n (f1D l) (f1D l')).F=j1p (f1D l) (f1D l'):=by delta l1n j1p;rfl
 have hlen:((f1D l).length:Int)=((f1D l').length:Int):=by simp only[b1L,List.length_map];omega
 refine q1s (b1g (q1P ..) (a1d (fun h=>absurd hlen (bne_iff_ne.1 h)) (fun _=>a1j hY (z1Q (fun i:Nat=>⟨tm2 84 [(0,(.slice 8 (f1D l) .no)),(1,(.slice 8 (f1D l') .no)),(5,(vI (i)))],lm2 84 [],⟨[],[],.none,0⟩⟩) (fun i=>i≤l.length) (fun i=>l.length-i) 0 (by kernel_rfl) (Nat.zero_le _) ?_))))
 intro i hi
 refine b1g (q1g ..) (a1d (fun hlt=>?_) (fun _=>a1h rfl))
 have hlt:=of_decide_eq_true hlt
 simp only[b1L,List.length_map] at hlt
 have hi2:i<l.length:=by omega
 have hi3:i<l'.length:=by omega
 have hm:=ho _ (List.getElem_mem hi2)
 have R:=d2K hN ih hm.1 hm.2 (g2L hb hi2 hi3)
 refine⟨_,_,_,_,_,_,_,_,o1x hi2,_,_,_,_,_,_,_,_,o1x hi3,a1t (a1d (fun h=>by rw[x1b R.k] at h;cases h) (fun _=>a1d (fun h=>by rw[x1b R.o] at h;cases h) (fun _=>a1d (fun h=>by rw[x1b R.v] at h;cases h) (fun _=>⟨true,R.texts,a1d nf (fun _=>a1e (b1g (m1X ..) ⟨true,R.pats,a1d nf (fun _=>⟨true,R.exps,a1d nf (fun _=>⟨true,R.decs,a1d nf (fun _=>⟨true,R.tys,a1d nf (fun _=>?_)⟩)⟩)⟩)⟩))⟩))))⟩
 rw[a1Z (x:=i) (by omega)]
 exact a1e ⟨i+1,⟨by omega,by omega⟩,rfl⟩
theorem k2f {d:Dec}:(DP d).length≤d.cnt:=by
 cases d with
 |val=>simp [DP]
 |func=>simp only[DP,Dec.cnt];omega
theorem f2S {N:Nat} (hN:N≤1000000) (ih:∀M,M<N→EOk M∧DOk M):DOk N:=by
 intro l l' hl ho hb
 unfold SM at hl
 have hll:=d2L hb
 have hY:(l1o (k1n l) (k1n l')).F=j1q (k1n l) (k1n l'):=by delta l1o j1q;rfl
 have hlen:((k1n l).length:Int)=((k1n l').length:Int):=by simp only[b1L,List.length_map];omega
 refine q1s (b1g (q1Q ..) (a1d (fun h=>absurd hlen (bne_iff_ne.1 h)) (fun _=>a1j hY (z1Q (fun i:Nat=>⟨tm2 85 [(0,(.slice 9 (k1n l) .no)),(1,(.slice 9 (k1n l') .no)),(5,(vI (i)))],lm2 85 [],⟨[],[],.none,0⟩⟩) (fun i=>i≤l.length) (fun i=>l.length-i) 0 (by kernel_rfl) (Nat.zero_le _) ?_))))
 intro i hi
 refine b1g (q1h ..) (a1d (fun hlt=>?_) (fun _=>a1h rfl))
 have hlt:=of_decide_eq_true hlt
 simp only[b1L,List.length_map] at hlt
 have hi2:i<l.length:=by omega
 have hi3:i<l'.length:=by omega
 have hm:=ho _ (List.getElem_mem hi2)
 have hbi:=g2L hb hi2 hi3
 generalize hx:l[i]=x at *
 generalize hy:l'[i]=y at *
 obtain⟨a1,a2,a3⟩:=dk_b x
 obtain⟨b1,b2,b3⟩:=dk_b y
 rw[hbi] at a1 a2 a3
 have hk:DK x=DK y:=by rw[←a1,b1]
 have hn:bs (DN x)=bs (DN y):=by rw[←a2,b2]
 have hp:DP x=DP y:=by rw[←a3,b3]
 have hT:h1N x=h1N y:=by rw[←g2n x,←g2n y,hbi]
 have hE:bE (k1N x)=bE (k1N y):=by rw[←g2m,←g2m,hbi]
 obtain⟨k1,k2,k3,k4⟩:=e2C hm.1
 have t1:evp a1R [.slice 1 (c1o (DP x)) .no,.slice 1 (c1o (DP y)) .no] .none []=some ⟨.ret (vB true),.none,[]⟩:=by
  rw[←hp];exact t1s (by have:= @k2f x;unfold SM;omega)
 have t2:evp a1Q [.slice 4 (avss (DTs x)) .no,.slice 4 (avss (DTs y)) .no] .none []=some ⟨.ret (vB true),.none,[]⟩:=by
  rw[g2G,g2G,←hT,g2I]
  exact v1t 1000000 _ (by unfold SM;omega) (fun t ht=>(k3 t ht).1) (fun t ht=>by have:=(k3 t ht).2;omega)
 have t3:evp a1E [.slice 8 (avss (DEs x)) .no,.slice 8 (avss (DEs y)) .no] .none []=some ⟨.ret (vB true),.none,[]⟩:=by
  rw[g2H,g2H]
  exact(ih (N-1) (by omega)).1 _ _ (by unfold SM;simp) (fun t ht=>by simp only[List.mem_singleton] at ht;subst ht;exact⟨k1,by omega⟩) (by simp only[List.map_cons,List.map_nil,hE])
 have r1:=y1e hi2
 have r2:=y1e hi3
 rw[hx] at r1
 rw[hy] at r2
 refine⟨_,_,_,_,_,_,_,_,_,r1,_,_,_,_,_,_,_,_,_,r2,a1t (a1d (fun h=>by rw[x1b hk] at h;cases h) (fun _=>a1d (fun h=>by rw[tx_r hn] at h;cases h) (fun _=>⟨true,t1,a1d nf (fun _=>a1e (b1g (m1Y ..) ⟨true,t2,a1d nf (fun _=>⟨true,t3,a1d nf (fun _=>⟨true,i2m,a1d nf (fun _=>⟨true,i2n,a1d nf (fun _=>⟨true,i2o,a1d nf (fun _=>?_)⟩)⟩)⟩)⟩)⟩))⟩)))⟩
 rw[a1Z (x:=i) (by omega)]
 exact a1e ⟨i+1,⟨by omega,by omega⟩,rfl⟩
theorem k2g:∀N,N≤1000000→EOk N∧DOk N:=by
 intro N
 induction N using Nat.strongRecOn with
 |ind N ih=>exact fun hN=>⟨f2R hN fun M hM=>ih M hM (by omega),f2S hN fun M hM=>ih M hM (by omega)⟩
theorem d2M {x y:Exp} (ho:x.Ok) (hc:x.cnt≤1000000) (hb:bE x=bE y):evp b1N [expV x,expV y] .none []=some ⟨.ret (vB true),.none,[]⟩:=by
 rw[←c1p,←c1p]
 refine q1s (b1g (s1H ..) ⟨true,?_,rfl⟩)
 have e:∀t:Exp,[[vI (XK t),vI (XO t),vI (XV t),.slice 1 (c1o (XP t)) .no,.slice 5 (avss (XPs t)) .no,.slice 8 (avss (XKs t)) .no,.slice 9 (avss (XDs t)) .no,.slice 4 (avss (XTs t)) .no]]=f1D [t]:=fun t=>by simp only[f1D,List.map_cons,List.map_nil,avss,b1C]
 rw[e,e]
 have hY:(k1j (f1D [x]) (f1D [y])).F=h1T (f1D [x]) (f1D [y]):=by delta k1j h1T;rfl
 refine q1s (b1g (q1f ..) (a1d (fun h=>absurd rfl (bne_iff_ne.1 h)) (fun _=>a1j hY (z1Q (fun i:Nat=>⟨tm2 84 [(0,(.slice 8 (f1D [x]) .full)),(1,(.slice 8 (f1D [y]) .full)),(5,(vI (i)))],lm2 84 [],⟨[],[],.none,0⟩⟩) (fun i=>i≤1) (fun i=>1-i) 0 (by kernel_rfl) (Nat.zero_le _) ?_))))
 intro i hi
 refine b1g (n1Y ..) (a1d (fun hlt=>?_) (fun _=>a1h rfl))
 have hlt:=of_decide_eq_true hlt
 simp only[b1L,List.length_map,List.length_cons,List.length_nil] at hlt
 obtain rfl:i=0:=by omega
 have R:=d2K (N:=1000000) (by omega) (fun M hM=>k2g M (by omega)) ho hc hb
 have r1:=o1x (l:=[x]) (i:=0) (by simp)
 have r2:=o1x (l:=[y]) (i:=0) (by simp)
 simp only[List.getElem_cons_zero] at r1 r2
 refine⟨_,_,_,_,_,_,_,_,r1,_,_,_,_,_,_,_,_,r2,a1t (a1d (fun h=>by rw[x1b R.k] at h;cases h) (fun _=>a1d (fun h=>by rw[x1b R.o] at h;cases h) (fun _=>a1d (fun h=>by rw[x1b R.v] at h;cases h) (fun _=>⟨true,R.texts,a1d nf (fun _=>a1e (b1g (m1k ..) ⟨true,R.pats,a1d nf (fun _=>⟨true,R.exps,a1d nf (fun _=>⟨true,R.decs,a1d nf (fun _=>⟨true,R.tys,a1d nf (fun _=>?_)⟩)⟩)⟩)⟩))⟩))))⟩
 exact a1e ⟨1,⟨by omega,by omega⟩,rfl⟩
theorem a2C {x:Exp} (ho:x.Ok) (hc:x.cnt≤1000000):∃e:Int,evp b1E [expV x] .none []=some ⟨.ret (vI e),.none,[]⟩∧(e=4↔100<Xdep x):=by
 obtain⟨hT,hlen,h1R,hcr,hb,hpos⟩:=e1A x ho hc
 have hW:Wu x.cnt≤100000000000:=x1a hc
 have hcn:Ck.cnts [x.row]≤2*x.cnt:=by simp only[Ck.cnts,h1R];omega
 have hw:=Ck.z1P (N:=Ck.cnts [x.row]) (fun M _=>Ck.x1X M) [x.row] (Nat.le_refl _) (fun r hr=>by simp at hr;subst hr;exact hT) 0 0 0 (by unfold Ck.BIG;omega) (by unfold Ck.BIG;omega)
 rw[show Ck.wms 0 0 [x.row]=Xdep x from rfl] at hw
 simp only[avss] at hw
 obtain⟨er,he4,hty⟩:=(Ck.g2A (Ck.oneR x.row+Ck.cntR x.row)).exp x.row (Nat.le_refl _) hT (by unfold Ck.c1h;omega)
 have htyK:∀K:Heap,lowss K.length K=true→evp b1c [expV x] .none K=some ⟨Ck.oc er,.none,K⟩:=fun K hK=>o1l u1K hty (t1w _ _) (by unfold Ck.oc;split<;>rfl) hK
 rw[b1C] at hw
 by_cases h:100<Xdep x
 ·rw[←c1p]
  exact⟨4,t1v (b1g (m1i ..) ⟨_,_,_,hw,a1d (fun _=>rfl) (fun hn=>absurd (of_decide_eq_false hn) (by omega))⟩),fun _=>h,fun _=>rfl⟩
 ·have hk:=htyK [[vI (0+Ck.cnts [x.row]:Nat),vI 0,vI (Xdep x:Nat)],[vI 0]] rfl
  rw[←c1p] at hk⊢
  refine⟨er,t1v (b1g (m1i ..) ⟨_,_,_,hw,a1d (fun hn=>absurd (of_decide_eq_true hn) (by omega)) (fun _=>?_)⟩),fun h4=>absurd h4 he4,fun hh=>absurd hh h⟩
  unfold Ck.oc at hk
  by_cases h0:er=0
  ·rw[if_pos h0] at hk
   subst h0
   exact .inl ⟨hk,rfl⟩
  ·rw[if_neg h0] at hk
   exact .inr ⟨er,hk,rfl⟩
end Go.Proofs
end

section
/- PARSE: what a text is asq an expression: the program's answer; the laws ParseParens, ParsePairs -/
set_option linter.unusedVariables false
set_option linter.unusedSimpArgs false
set_option maxRecDepth 100000
open Go Go.Eng Go.Pa
open Go.Lx (T Tok Pieces)
namespace Go.Proofs
def expW (s:ByteArray):Except (Nat×Nat) Exp:=
 match lexA s with
 | .error x=>.error x
 | .ok ts=>match whole s.size (pExp s.size (8*ts.length+7) ts) with
  | .error x=>.error x
  | .ok t=>if 100<Xdep t then .error (0,4) else .ok t
def q1q:Except (Nat×Nat) Exp→AV
 | .error (p,e)=>.tuple [exp0,vI p,vI e]
 | .ok t=>.tuple [expV t,vI 0,vI 0]
theorem x1c {t:Exp} (ho:t.Ok) (hc:t.cnt≤1000000) {K:Heap} (hk:lowss K.length K=true):∃e:Int,evp b1E [expV t] .none K=some ⟨.ret (vI e),.none,K⟩∧(e=4↔100<Xdep t):=by
 obtain⟨e,h,h4⟩:=a2C ho hc
 exact⟨e,o1l u1K h (t1w _ _) rfl hk,h4⟩
theorem r1K {s:ByteArray} {ts:List Tok} (h:lexA s=.ok ts) {t:Exp} {l:List Tok} (hF:pExp s.size (8*ts.length+7) ts=.ok t l):t.Ok∧t.cnt≤1000000:=by
 obtain⟨h1,h2,h3,h4⟩:=k1D h
 obtain⟨q1,q2,q3⟩:=(wtE s.size (by omega) (8*ts.length+7)).exp h3 t l hF
 exact⟨q1,by omega⟩
theorem g2M (s:ByteArray):evp b1p [vS s] .none []=some ⟨.ret (q1q (expW s)),.none,[]⟩:=by
 refine x1d (b1g (c2H ..) (e2f (fun ts hts=>?_) (fun p e he=>?_)))
 ·obtain⟨hs,hg,h4,hl⟩:=k1D hts
  refine a1d nf (fun _=>?_)
  obtain⟨r,c,hr⟩:=(j2w s.size (8*ts.length+7) (by omega)).Exp (l:=ts) (d:=0) hg (by omega) (by unfold BIG;omega)
  cases hF:pExp s.size (8*ts.length+7) ts with
  |ok t l=>
   rw[hF] at hr
   obtain⟨hgl,rfl⟩:=hr
   obtain⟨ho,hc⟩:=r1K hts hF
   obtain⟨e,cR,he4⟩:=x1c ho hc (K:=[hp5 (tks l) s.size 0 0 0]) g2N
   rw[←c1p] at cR c
   refine .inl ⟨_,_,_,_,_,_,_,_,_,_,_,_,_,c,a1d nf fun _=>?_⟩
   cases l with
   |cons u l=>
    refine a1d (fun _=>⟨_,_,_,_,⟨Int.le_refl _,rfl⟩,?_⟩) (fun h=>absurd (of_decide_eq_false h) (by simp))
    simp only[expW,hts,hF,whole,q1q];rfl
   |nil=>
    refine a1d (fun h=>absurd (of_decide_eq_true h) (by simp)) (fun _=>⟨_,cR,a1d (fun h=>?_) (fun h=>⟨g1U ..,k1H ..,k1H ..,k1H ..,k1H ..,g1U ..,k1H ..,k1H ..,k1H ..,k1H ..,?_⟩)⟩)
    ·simp only[expW,hts,hF,whole,if_pos (he4.1 (eq_of_beq h)),q1q];rfl
    ·rw[beq_eq_false_iff_ne] at h
     simp only[expW,hts,hF,whole,if_neg (fun hd=>h (he4.2 hd)),q1q,←c1p];rfl
  |no e p=>
   rw[hF] at hr
   obtain⟨he,l,rfl⟩:=hr
   rw[if_pos rfl] at c
   refine .inl ⟨_,_,_,_,_,_,_,_,_,_,_,_,_,c,a1d (fun _=>⟨ne0 he,?_⟩) (fun h=>by rw[ne0 he] at h;cases h)⟩
   simp only[expW,hts,hF,whole,q1q];rfl
 ·have hne:=(t1A he).1
  refine a1d (fun _=>⟨ne0 hne,?_⟩) (fun h=>by rw[ne0 hne] at h;cases h)
  simp only[expW,he,q1q];rfl
section
variable {QD:List (St→Prop)} {QR:CRes→Prop}
end
end Go.Proofs
end

section
/- TREES, printed by kt.py out of y23.txt -/
open Go Go.Eng
namespace Go.Proofs
set_option linter.unusedVariables false
set_option maxRecDepth 100000
@[irreducible] noncomputable def x1Q (l:List (List AV)):KT:=kt3 f1i [.slice 4 l .no] []
theorem w1B (l:List (List AV)) (i:Nat):KT.round Pg cfg0 rs0 kc3 (x1Q l) {tmps:=tm2 20 [(3,AV.slice 0 [] Own.full),(6,AV.slice 4 l Own.no),(7,vI (↑l.length:Int)),(8,vI (↑i:Int))],lh:=lm2 20 [],g:={H:=[],defers:=[],rm:=RM.none,base:=0}}=
 (.branch (decide ((↑i:Int)<(↑l.length:Int)))
 (.exI fun i1=>
 (.exS fun s=>
 (.exI fun i2=>
 (.exI fun i3=>
 (.row (l) ((↑i:Int)) [(vI (i1)),(vS (s)),(vI (i2)),(vI (i3))]
 (.need true
 (.done ⟨tm2 20 [(3,(.slice 1 [[(vS (s))]] .yes)),(6,(.slice 4 (l) .no)),(7,(vI ((↑l.length:Int)))),(8,(vI (IntKind.i64.wrap ((↑i:Int)+1))))],lm2 20 [],⟨[],[],.none,0⟩⟩)))))))
 (.out (.exS fun s=>
 (.call e1l [(.slice 0 [] .full),(vS ((⟨#[32]⟩:ByteArray)))] .none [] ⟨(.ret (vS (s))),.none,[]⟩
 (.need true
 (.ret ⟨(.ret (vS (s))),.none,[]⟩)))))):=by kernel_rfl
theorem z1A (l:List (List AV)) (m:List (List AV)) (i:Nat):KT.round Pg cfg0 rs0 kc3 (x1Q l) {tmps:=tm2 20 [(3,AV.slice 1 m Own.yes),(6,AV.slice 4 l Own.no),(7,vI (↑l.length:Int)),(8,vI (↑i:Int))],lh:=lm2 20 [],g:={H:=[],defers:=[],rm:=RM.none,base:=0}}=
 (.branch (decide ((↑i:Int)<(↑l.length:Int)))
 (.exI fun i1=>
 (.exS fun s=>
 (.exI fun i2=>
 (.exI fun i3=>
 (.row (l) ((↑i:Int)) [(vI (i1)),(vS (s)),(vI (i2)),(vI (i3))]
 (.need ((m.length+[[a1D Pg b1T (AV.val (Value.string s)).dis]].length).ble 2147483648)
 (.done ⟨tm2 20 [(3,(.slice 1 ((m)++[[(vS (s))]]) .yes)),(6,(.slice 4 (l) .no)),(7,(vI ((↑l.length:Int)))),(8,(vI (IntKind.i64.wrap ((↑i:Int)+1))))],lm2 20 [],⟨[],[],.none,0⟩⟩)))))))
 (.out (.exS fun s=>
 (.call e1l [(.slice 1 (m) .no),(vS ((⟨#[32]⟩:ByteArray)))] .none [] ⟨(.ret (vS (s))),.none,[]⟩
 (.need true
 (.ret ⟨(.ret (vS (s))),.none,[]⟩)))))):=by kernel_rfl
end Go.Proofs
end

section
/- LEX: Join -/
open Go Go.Eng Go.Lx
namespace Go.Proofs
set_option linter.unusedVariables false
set_option linter.unusedSimpArgs false
set_option maxRecDepth 100000
def q1U (ts:List Tok):T:=Lib.join (ts.map (·.text)) [32]
def slJ:List Tok→AV
 |[]=>.slice 0 [] .full
 |t::ts=>.slice 1 ([vS ⟨t.text.toArray⟩]::ts.map fun t=>[vS ⟨t.text.toArray⟩]) .yes
theorem g2a (ts:List Tok) (t:Tok):slJ (ts++[t])=.slice 1 (ts.map (fun t=>[vS ⟨t.text.toArray⟩])++[[vS ⟨t.text.toArray⟩]]) .yes:=by
 cases ts with
 |nil=>rfl
 |cons u us=>simp [slJ]
theorem k2i (l:List (List AV)):kt3 f1i [.slice 4 l .no] []=x1Q l:=by delta x1Q;rfl
theorem q1w:∀ts:List Tok,j1C (ts.map fun t=>[vS ⟨t.text.toArray⟩])=some (ts.map fun t=>⟨t.text.toArray⟩)
 |[]=>rfl
 |t::ts=>by
  have:=q1w ts
  simp only[List.map_cons,vS] at this⊢
  rw[j1C,this];rfl
theorem e2c {sz:Nat} {own:Own} {ts:List Tok} (h1:ts.length≤140737488355328) (h2:(q1U ts).length≤140737488355328):
  evp e1l [.slice sz (ts.map fun t=>[vS ⟨t.text.toArray⟩]) own,vS ⟨#[32]⟩] .none []=some ⟨.ret (vS ⟨(q1U ts).toArray⟩),.none,[]⟩:=by
 refine b2c (e:=fun args H=>(u1u args).map fun v=>(Out.ret v,H)) rfl ?_
 have e:(ts.map fun t=>(⟨t.text.toArray⟩:ByteArray)).map (·.data.toList)=ts.map (·.text):=by rw[List.map_map];congr 1
 have e2:(⟨#[32]⟩:ByteArray).data.toList=[32]:=rfl
 simp only[vS,u1u]
 have:=q1w ts
 simp only[vS] at this
 rw[this]
 simp only[e,e2]
 rw[if_pos ⟨by rw[List.length_map];exact h1,h2⟩]
 rfl
theorem g2P {ts:List Tok} (h1:ts.length≤2000000000) (h2:(q1U ts).length≤140737488355328):evp f1i [.slice 4 (ts.map tokRow) .no] .none []=some ⟨.ret (vS ⟨(q1U ts).toArray⟩),.none,[]⟩:=by
 refine k1m (a1j (k2i _) (v1m (fun i:Nat=>⟨tm2 20 [(3,slJ (ts.take i)),(6,(.slice 4 (ts.map tokRow) .no)),(7,(vI (((ts.map tokRow).length:Int)))),(8,(vI i))],lm2 20 [],⟨[],[],.none,0⟩⟩)
  (fun i=>i≤ts.length) (fun i=>ts.length-i) 0 (by kernel_rfl) (Nat.zero_le _) ?_))
 intro i hi
 have hn:∀(h:i<ts.length),slJ (ts.take (i+1))=.slice 1 ((ts.take i).map (fun t=>[vS ⟨t.text.toArray⟩])++[[vS ⟨(ts[i]).text.toArray⟩]]) .yes:=fun h=>by rw[List.take_succ_eq_append_getElem h,g2a]
 have hrow:∀(h:i<ts.length),(ts.map tokRow)[i]? =some (tokRow ts[i]):=fun h=>by simp [h]
 have hend:¬i<ts.length→ts.take i=ts:=fun h=>List.take_of_length_le (by omega)
 cases hp:ts.take i with
 |nil=>
  have h0:i=0∨ts=[]:=by
   cases i with
   |zero=>exact .inl rfl
   |succ i=>cases ts with
    |nil=>exact .inr rfl
    |cons t ts=>simp at hp
  rw[show slJ []=.slice 0 [] .full from rfl]
  refine a1j (w1B _ i) (a1d (fun h=>?_) (fun h=>?_))
  ·have h:=of_decide_eq_true h
   rw[List.length_map] at h
   have h:i<ts.length:=by omega
   refine e2e (hrow h) ⟨rfl,?_⟩
   rw[a1Z (by omega)]
   refine a1e ⟨i+1,⟨by omega,by omega⟩,?_⟩
   rw[hn h,hp];rfl
  ·have h:=of_decide_eq_false h
   rw[List.length_map] at h
   have hts:ts=[]:=by rw[←hend (by omega)];exact hp
   subst hts
   exact a1h ⟨_,e2c (ts:=[]) (by simp) h2,rfl,rfl⟩
 |cons u us=>
  rw[show slJ (u::us)=.slice 1 ((u::us).map fun t=>[vS ⟨t.text.toArray⟩]) .yes from rfl]
  refine a1j (z1A _ _ i) (a1d (fun h=>?_) (fun h=>?_))
  ·have h:=of_decide_eq_true h
   rw[List.length_map] at h
   have h:i<ts.length:=by omega
   have hlen:(u::us).length≤i:=by rw[←hp,List.length_take];omega
   refine e2e (hrow h) ⟨by rw[Nat.ble_eq];simp at hlen⊢;omega,?_⟩
   rw[a1Z (by omega)]
   refine a1e ⟨i+1,⟨by omega,by omega⟩,?_⟩
   rw[hn h,hp]
  ·have h:=of_decide_eq_false h
   rw[List.length_map] at h
   have hts:=hend (by omega)
   rw[hp] at hts
   rw[hts]
   exact a1h ⟨_,e2c (by omega) h2,rfl,rfl⟩
end Go.Proofs
end

section
/- PARSE: the law ParseTokens -/
set_option linter.unusedVariables false
set_option linter.unusedSimpArgs false
set_option maxRecDepth 100000
open Go Go.Eng Go.Pa
open Go.Lx (T Tok Pieces)
namespace Go.Proofs
theorem f2T:evp b1N [exp0,exp0] .none []=some ⟨.ret (vB true),.none,[]⟩:=ac 60 (by kernel_rfl)
theorem i2p {s t:ByteArray} {ts us:List Tok} (hs:lexA s=.ok ts) (ht:lexA t=.ok us) (hb:c1K us=c1K ts):
  (∃x y,expW s=.ok x∧expW t=.ok y∧x.Ok∧x.cnt≤1000000∧bE x=bE y)∨∃p q e,expW s=.error (p,e)∧expW t=.error (q,e):=by
 have hlen:us.length=ts.length:=by have:=congrArg List.length hb;simpa using this
 have hm:=b2Q (z:=s.size) (z':=t.size) (n:=8*ts.length+7) hb
 have e1:expW s=match whole s.size (pExp s.size (8*ts.length+7) ts) with
  | .error x=>.error x
  | .ok t=>if 100<Xdep t then .error (0,4) else .ok t:=by unfold expW;rw[hs]<;>rfl
 have e2:expW t=match whole t.size (pExp t.size (8*ts.length+7) us) with
  | .error x=>.error x
  | .ok t=>if 100<Xdep t then .error (0,4) else .ok t:=by unfold expW;rw[ht];simp only[hlen]<;>rfl
 rw[e1,e2]
 cases hF:pExp s.size (8*ts.length+7) ts with
 |no e p=>
  rw[hF] at hm
  cases hG:pExp t.size (8*ts.length+7) us with
  |ok y r=>rw[hG] at hm;cases hm
  |no e' q=>
   rw[hG] at hm
   simp only[Res.mp,Res.no.injEq] at hm
   right
   exact⟨p,q,e,rfl,by simp only[whole];rw[hm.1]⟩
 |ok x r=>
  obtain⟨ho,hc⟩:=r1K hs hF
  rw[hF] at hm
  cases hG:pExp t.size (8*ts.length+7) us with
  |no e' q=>rw[hG] at hm;cases hm
  |ok y r'=>
   rw[hG] at hm
   simp only[Res.mp,Res.ok.injEq] at hm
   obtain⟨hxy,hr⟩:=hm
   cases r with
   |nil=>
    have:r'=[]:=by cases r' with
     |nil=>rfl
     |cons a l=>simp [c1K] at hr
    subst this
    simp only[whole]
    rw[k2e hxy]
    by_cases hd:100<Xdep x
    ·right
     rw[if_pos hd,if_pos hd];exact⟨0,0,4,rfl,rfl⟩
    ·left
     rw[if_neg hd,if_neg hd];exact⟨x,y,rfl,rfl,ho,hc,hxy.symm⟩
   |cons a l=>
    cases r' with
    |nil=>simp [c1K] at hr
    |cons b m=>right;exact⟨_,_,11,rfl,rfl⟩
theorem q1r (s:ByteArray):evp c1I [vS s] .none []=some ⟨.ret (vB true),.none,[]⟩:=by
 refine x1d (b1g (n1Z ..) (e2f (fun ts hts=>?_) (fun p e he=>?_)))
 ·obtain⟨hs,hp,hl⟩:=e2d hts
  have hj:=hp.join_len
  rw[d1J] at hj
  have hj':(q1U ts).length≤s.size+ts.length:=hj
  refine⟨_,g2P (ts:=ts) (by omega) (by omega),a1t (a1d nf (fun _=>a1d (fun _=>⟨_,x1j,a1h rfl⟩) (fun h3=>a1e (b1g (m1m ..) ?_))))⟩
  have h3:=of_decide_eq_false h3
  obtain⟨us,hP,hk⟩:=hp.join 0
  have hb:=b2P hk
  have hlu:us.length=ts.length:=by have:=congrArg List.length hk;simpa using this
  have hsz:(⟨(q1U ts).toArray⟩:ByteArray).size≤4096:=by omega
  have hL:lexA ⟨(q1U ts).toArray⟩=.ok us:=i2t hsz (by simpa [tx,q1U] using hP) (by omega)
  have cA:=g2M s
  have cB:=g2M ⟨(q1U ts).toArray⟩
  rcases i2p hts hL hb with ⟨x,y,hx,hy,ho,hc,hxy⟩|⟨p,q,e,hx,hy⟩
  ·have hS:=d2M ho hc hxy
   rw[hx] at cA
   rw[hy] at cB
   simp only[q1q,expV,b1C] at cA cB hS
   exact⟨_,_,_,_,_,_,_,_,_,_,cA,_,_,_,_,_,_,_,_,_,_,cB,a1d (fun _=>⟨_,hS,a1d (fun _=>⟨_,x1j,rfl⟩) (fun h=>by cases h)⟩) (fun h=>absurd h (by decide))⟩
  ·rw[hx] at cA
   rw[hy] at cB
   exact⟨_,_,_,_,_,_,_,_,_,_,cA,_,_,_,_,_,_,_,_,_,_,cB,a1d (fun _=>⟨_,f2T,a1d (fun _=>⟨_,x1j,rfl⟩) (fun h=>by cases h)⟩) (fun h=>by simp at h)⟩
 ·have hne:=(t1A he).1
  have hJ:=g2P (ts:=[]) (by simp) (by simp [q1U,Lib.join])
  exact⟨_,hJ,a1t (a1d (fun _=>⟨_,x1j,a1h rfl⟩) (fun h=>by rw[ne0 hne] at h;cases h))⟩
end Go.Proofs
end
