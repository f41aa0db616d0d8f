/- Texts of this proof folded into one: RX16 E32 R11 R12 U10 G15 KZ4 RX20 U11 U12. -/
import Derived.Test.YtmdjdcnabbapgaaGreatDoorV15
import Derived.Test.YtmdjdcnabbapgaaGreatDoorV10
import Derived.Test.YtmdjdcnabbapgaaGreatDoorV20
import Derived.Test.YtmdjdcnabbapgaaGreatDoorV19
import Derived.Test.YtmdjdcnabbapgaaGreatDoorV16
import Derived.Test.YtmdjdcnabbapgaaGreatDoorV7
section
/- TREES, printed by kt.py out of z16.txt -/
open Go Go.Eng
open IntKind (wrap)
namespace Go.Proofs
set_option linter.unusedVariables false
set_option maxRecDepth 100000
@[irreducible] noncomputable def v1k:KT:=((((((((((((((((((((((((((((((((((((((((kt5 a1C [.ptr 0 0] [[.slice 4 [[vI 0,vS ⟨#[]⟩,vI 0,vI 0]] .no,vI 0,vI 0,vI 0,vI 0]]).F).I 0).S ⟨#[]⟩).I 0).I 0).T).T).B false).R []).I 0).I 0).I 0).I 0).T).F).T).R []).I 0).I 0).I 0).I 0).T).T).S ⟨#[]⟩).R []).I 0).I 0).I 0).I 0).T).T).T).S ⟨#[]⟩).R []).I 0).I 0).I 0).I 0).T).T
@[irreducible] noncomputable def c2T (z d:Int):KT:=kt5 a1C [AV.ptr 0 0] [[AV.slice 4 [] Own.no,vI z,vI 0,vI 0,vI d]]
theorem z1N (z d):(kt5 a1C [AV.ptr 0 0] [[AV.slice 4 [] Own.no,vI z,vI 0,vI 0,vI d]]).prune (PH.of 30959451048302722711980307049331)=
 .exB fun b=>.exR fun l=>znI4 fun i i1 i2 i3=>.call a1g [znP,vS znb0] .none [[znN 4 [],vI z,vI 0,vI 0,vI d]] (znR (vB b) [zn1 l i i1 i2 i3]) (.branch b (zn10 a1z [znP,vI 1] [zn1 l i i1 i2 i3] (fun s l1 i4 i5 i6 i7=>.stage (.exB fun b1=>.exR fun l2=>znI6 fun i8 i9 i10 i11 i12 i13=>.exS fun s1=>znR6 fun l3 l4 l5 l6 l7 l8=>.call a1g [znP,vS znb1] .none [zn1 l1 i4 i5 i6 i7,[vI 1,vI z,vS s,znE,znE,znE,znE,znE,znE]] (znR (vB b1) [zn1 l2 i8 i9 i10 i11,zn4 i12 i13 s1 l3 l4 l5 l6 l7 l8]) (.branch b1 (.alt (.exI fun i14=>.exS fun s2=>znR3 fun l9 l10 l11=>znI6 fun i15 i16 i17 i18 i19 i20=>.exS fun s3=>znR6 fun l12 l13 l14 l15 l16 l17=>.call a1o [znP] .none [zn1 l2 i8 i9 i10 i11,zn4 i12 i13 s1 l3 l4 l5 l6 l7 l8] (znR (.agg (zn9 i14 s2 l9 l10)) [zn1 l11 i15 i16 i17 i18,zn4 i19 i20 s3 l12 l13 l14 l15 l16 l17]) (.done (znS 20 [(0,znP),(1,.ptr 1 0)] [] [zn1 l11 i15 i16 i17 i18,[vI i19,vI i20,vS s3,.slice 0 l12 .full,.slice 4 [zn9 i14 s2 l9 l10] .full,.slice 0 l14 .full,.slice 0 l15 .full,.slice 0 l16 .full,.slice 0 l17 .full]] 2))) (.exR fun l9=>znI6 fun i14 i15 i16 i17 i18 i19=>.exS fun s2=>znR6 fun l10 l11 l12 l13 l14 l15=>.call a1o [znP] .none [zn1 l2 i8 i9 i10 i11,zn4 i12 i13 s1 l3 l4 l5 l6 l7 l8] (znQ znF0 [zn1 l9 i14 i15 i16 i17,zn4 i18 i19 s2 l10 l11 l12 l13 l14 l15]) (.out (znL 1 l10 (znL 1 l11 (znL 1 l12 (znL 1 l13 (znL 1 l14 (znL 1 l15 (znL 1 l9 (.ret (znQ znF0 [zn1 l9 i14 i15 i16 i17])))))))))))) (.done (znS 20 [(0,znP),(1,.ptr 1 0)] [] [zn1 l2 i8 i9 i10 i11,zn4 i12 i13 s1 l3 l4 l5 l6 l7 l8] 2)))) ((((((((((((((c2T z d).T.T.B b).R l).I i).I i1).I i2).I i3).T.T.T.S s).R l1).I i4).I i5).I i6).I i7).T.T.K)) zn13) (.alt (.exR fun l1=>znI4 fun i4 i5 i6 i7=>.call a1f [znP,vS znb2] .none [zn1 l i i1 i2 i3] (znR (.tuple []) [zn1 l1 i4 i5 i6 i7]) (zn10 a1z [znP,vI 1] [zn1 l1 i4 i5 i6 i7] (fun s l2 i8 i9 i10 i11=>zn10 a1z [znP,vI 1] [zn1 l2 i8 i9 i10 i11] (fun s1 l3 i12 i13 i14 i15=>((((((((((((((((((((((((c2T z d).T.T.B b).R l).I i).I i1).I i2).I i3).T.F.T.R l1).I i4).I i5).I i6).I i7).T.T.S s).R l2).I i8).I i9).I i10).I i11).T.T.T.S s1).R l3).I i12).I i13).I i14).I i15).T.T) zn13) zn13)) (zn8 a1f [znP,vS znb2] [zn1 l i i1 i2 i3] zn13))):=by kernel_rfl
@[irreducible] noncomputable def w1L (k:Int) (s:ByteArray) (n m:Int) (l:List (List AV)) (z d:Int):KT:=kt5 a1C [AV.ptr 0 0] [[AV.slice 4 ([vI k,vS s,vI n,vI m]::l) Own.no,vI z,vI 0,vI 0,vI d]]
theorem z1O (k) (s:ByteArray) (n m l z d):(kt5 a1C [AV.ptr 0 0] [[AV.slice 4 ([vI k,vS s,vI n,vI m]::l) Own.no,vI z,vI 0,vI 0,vI d]]).prune (PH.of 30959451048302722711980307049332)=
 .exI fun i=>.exS fun s1=>znI2 fun i1 i2=>.row ([vI k,vS s,vI n,vI m]::l) 0 [vI i,vS s1,vI i1,vI i2] (.exB fun b=>.exR fun l1=>znI4 fun i3 i4 i5 i6=>.call a1g [znP,vS znb0] .none [[znN 4 ([vI k,vS s,vI n,vI m]::l),vI z,vI 0,vI 0,vI d]] (znR (vB b) [zn1 l1 i3 i4 i5 i6]) (.branch b (zn10 a1z [znP,vI 1] [zn1 l1 i3 i4 i5 i6] (fun s2 l2 i7 i8 i9 i10=>.stage (.exB fun b1=>.exR fun l3=>znI6 fun i11 i12 i13 i14 i15 i16=>.exS fun s3=>znR6 fun l4 l5 l6 l7 l8 l9=>.call a1g [znP,vS znb1] .none [zn1 l2 i7 i8 i9 i10,[vI 1,vI i2,vS s2,znE,znE,znE,znE,znE,znE]] (znR (vB b1) [zn1 l3 i11 i12 i13 i14,zn4 i15 i16 s3 l4 l5 l6 l7 l8 l9]) (.branch b1 (.alt (.exI fun i17=>.exS fun s4=>znR3 fun l10 l11 l12=>znI6 fun i18 i19 i20 i21 i22 i23=>.exS fun s5=>znR6 fun l13 l14 l15 l16 l17 l18=>.call a1o [znP] .none [zn1 l3 i11 i12 i13 i14,zn4 i15 i16 s3 l4 l5 l6 l7 l8 l9] (znR (.agg (zn9 i17 s4 l10 l11)) [zn1 l12 i18 i19 i20 i21,zn4 i22 i23 s5 l13 l14 l15 l16 l17 l18]) (.done (znS 20 [(0,znP),(1,.ptr 1 0)] [] [zn1 l12 i18 i19 i20 i21,[vI i22,vI i23,vS s5,.slice 0 l13 .full,.slice 4 [zn9 i17 s4 l10 l11] .full,.slice 0 l15 .full,.slice 0 l16 .full,.slice 0 l17 .full,.slice 0 l18 .full]] 2))) (.exR fun l10=>znI6 fun i17 i18 i19 i20 i21 i22=>.exS fun s4=>znR6 fun l11 l12 l13 l14 l15 l16=>.call a1o [znP] .none [zn1 l3 i11 i12 i13 i14,zn4 i15 i16 s3 l4 l5 l6 l7 l8 l9] (znQ znF0 [zn1 l10 i17 i18 i19 i20,zn4 i21 i22 s4 l11 l12 l13 l14 l15 l16]) (.out (znL 1 l11 (znL 1 l12 (znL 1 l13 (znL 1 l14 (znL 1 l15 (znL 1 l16 (znL 1 l10 (.ret (znQ znF0 [zn1 l10 i17 i18 i19 i20])))))))))))) (.done (znS 20 [(0,znP),(1,.ptr 1 0)] [] [zn1 l3 i11 i12 i13 i14,zn4 i15 i16 s3 l4 l5 l6 l7 l8 l9] 2)))) ((((((((((((((((((w1L k s n m l z d).F.I i).S s1).I i1).I i2).T.T.B b).R l1).I i3).I i4).I i5).I i6).T.T.T.S s2).R l2).I i7).I i8).I i9).I i10).T.T.K)) zn13) (.alt (.exR fun l2=>znI4 fun i7 i8 i9 i10=>.call a1f [znP,vS znb2] .none [zn1 l1 i3 i4 i5 i6] (znR (.tuple []) [zn1 l2 i7 i8 i9 i10]) (zn10 a1z [znP,vI 1] [zn1 l2 i7 i8 i9 i10] (fun s2 l3 i11 i12 i13 i14=>zn10 a1z [znP,vI 1] [zn1 l3 i11 i12 i13 i14] (fun s3 l4 i15 i16 i17 i18=>((((((((((((((((((((((((((((w1L k s n m l z d).F.I i).S s1).I i1).I i2).T.T.B b).R l1).I i3).I i4).I i5).I i6).T.F.T.R l2).I i7).I i8).I i9).I i10).T.T.S s2).R l3).I i11).I i12).I i13).I i14).T.T.T.S s3).R l4).I i15).I i16).I i17).I i18).T.T) zn13) zn13)) (zn8 a1f [znP,vS znb2] [zn1 l1 i3 i4 i5 i6] zn13)))):=by kernel_rfl
theorem n1M (k) (s:ByteArray) (n m l z d i) (s1:ByteArray) (i1 i2) (b:Bool) (l1 i3 i4 i5 i6) (s2:ByteArray) (l2 i7 i8 i9 i10 q1x0 q1x1 q1x2 q1x3 q1x4 q1x5 q1x6) (q1x7:ByteArray) (q1x8) (q1x9:Nat) (q1x10 q1x11 q1x12 q1x13 q1x14):((((((((((((((((((w1L k s n m l z d).F.I i).S s1).I i1).I i2).T.T.B b).R l1).I i3).I i4).I i5).I i6).T.T.T.S s2).R l2).I i7).I i8).I i9).I i10).T.T.K (znS 20 [(0,znP),(1,.ptr 1 0)] [] [zn1 q1x0 q1x1 q1x2 q1x3 q1x4,zn2 q1x5 q1x6 q1x7 q1x8 q1x9 q1x10 q1x11 q1x12 q1x13 q1x14] 2)).prune (PH.of 8665580135494159736942624685)=
 .alt (.exR fun l3=>znI6 fun i11 i12 i13 i14 i15 i16=>.exS fun s3=>znR6 fun l4 l5 l6 l7 l8 l9=>.call a1f [znP,vS znb3] .none [zn1 q1x0 q1x1 q1x2 q1x3 q1x4,zn2 q1x5 q1x6 q1x7 q1x8 q1x9 q1x10 q1x11 q1x12 q1x13 q1x14] (znR (.tuple []) [zn1 l3 i11 i12 i13 i14,zn2 i15 i16 s3 l4 q1x9 l5 l6 l7 l8 l9]) (.alt (znI3 fun i17 i18 i19=>znR6 fun l10 l11 l12 l13 l14 l15=>znI6 fun i20 i21 i22 i23 i24 i25=>.exS fun s4=>znR6 fun l16 l17 l18 l19 l20 l21=>.call a1i [znP] .none [zn1 l3 i11 i12 i13 i14,zn2 i15 i16 s3 l4 q1x9 l5 l6 l7 l8 l9] (znR (.agg (zn3 i17 i18 i19 l10 l11 l12 l13 l14)) [zn1 l15 i20 i21 i22 i23,zn2 i24 i25 s4 l16 q1x9 l17 l18 l19 l20 l21]) (znL 1 l16 (znL 1 l17 (znL 1 [zn3 i17 i18 i19 l10 l11 l12 l13 l14] (znL 1 l19 (znL 1 l20 (znL 1 l21 (znL 1 l15 (.ret (znR (.agg [vI i24,vI i25,vS s4,(a1E Pg (y_s_string:TypeId) (AV.slice 0 l16 Own.full).dis.dis.dis),(a1E Pg (y_s_api_Ty:TypeId) (AV.slice q1x9 l17 Own.full).dis.dis.dis),znN 8 [zn3 i17 i18 i19 l10 l11 l12 l13 l14],(a1E Pg (y_s_api_Con:TypeId) (AV.slice 0 l19 Own.full).dis.dis.dis),(a1E Pg (y_s_api_Mod:TypeId) (AV.slice 0 l20 Own.full).dis.dis.dis),(a1E Pg (y_s_api_Sig:TypeId) (AV.slice 0 l21 Own.full).dis.dis.dis)]) [zn1 l15 i20 i21 i22 i23])))))))))) (zn20 a1i [znP] [zn1 l3 i11 i12 i13 i14,zn2 i15 i16 s3 l4 q1x9 l5 l6 l7 l8 l9] q1x9 zn14))) (zn20 a1f [znP,vS znb3] [zn1 q1x0 q1x1 q1x2 q1x3 q1x4,zn2 q1x5 q1x6 q1x7 q1x8 q1x9 q1x10 q1x11 q1x12 q1x13 q1x14] q1x9 zn14):=by kernel_rfl
@[irreducible] noncomputable def c2U (nm:ByteArray) (an:Int) (q:List AV) (mm:List (List AV)) (z' x y d':Int):KT:=KT.round Pg cfg0 rs0 kc5 v1k (znS 38 [(0,znP),(2,.lp 2 0 0),(5,.lp 5 0 0)] [(2,0,zn15 znb4),(5,0,[vI 2,vI an,vS nm,.slice 1 [q] .full,znE,znE,znE,znE,znE])] [zn1 mm z' x y d'] 1)
theorem z1P (nm:ByteArray) (an q mm z' x y d'):(KT.round Pg cfg0 rs0 kc5 v1k (znS 38 [(0,znP),(2,.lp 2 0 0),(5,.lp 5 0 0)] [(2,0,zn15 znb4),(5,0,[vI 2,vI an,vS nm,.slice 1 [q] .full,znE,znE,znE,znE,znE])] [zn1 mm z' x y d'] 1)).prune (PH.of 1008806300107869613)=
 .exB fun b=>.call a1l [znP,vI 1] .none [zn1 mm z' x y d'] (znR (vB b) [zn1 mm z' x y d']) (.branch b (zn10 a1z [znP,vI 1] [zn1 mm z' x y d'] (fun s l i i1 i2 i3=>.done (znS 38 [(0,znP),(2,.lp 2 0 0),(5,.lp 5 0 0)] [(2,0,zn15 znb4),(5,0,zn18 an nm [q,[(vS s)]])] [zn1 l i i1 i2 i3] 1)) (fun l i i1 i2 i3=>.out (.ret (znQ znF0 [zn1 l i i1 i2 i3])))) (.out (.stage (.exB fun b1=>.exR fun l=>znI6 fun i i1 i2 i3 i4 i5=>.exS fun s=>znR6 fun l1 l2 l3 l4 l5 l6=>.call a1g [znP,vS znb1] .none [zn1 mm z' x y d',[vI 2,vI an,vS nm,.slice 1 [q] .full,znE,znE,znE,znE,znE]] (znR (vB b1) [zn1 l i i1 i2 i3,zn16 i4 i5 s l1 l2 l3 l4 l5 l6]) (.branch b1 (.alt (.exI fun i6=>.exS fun s1=>znR3 fun l7 l8 l9=>znI6 fun i7 i8 i9 i10 i11 i12=>.exS fun s2=>znR6 fun l10 l11 l12 l13 l14 l15=>.call a1o [znP] .none [zn1 l i i1 i2 i3,zn16 i4 i5 s l1 l2 l3 l4 l5 l6] (znR (.agg (zn9 i6 s1 l7 l8)) [zn1 l9 i7 i8 i9 i10,zn16 i11 i12 s2 l10 l11 l12 l13 l14 l15]) (.done (znS 20 [(0,znP),(1,.ptr 1 0)] [] [zn1 l9 i7 i8 i9 i10,[vI i11,vI i12,vS s2,.slice 1 l10 .full,.slice 4 [zn9 i6 s1 l7 l8] .full,.slice 0 l12 .full,.slice 0 l13 .full,.slice 0 l14 .full,.slice 0 l15 .full]] 2))) (.exR fun l7=>znI6 fun i6 i7 i8 i9 i10 i11=>.exS fun s1=>znR6 fun l8 l9 l10 l11 l12 l13=>.call a1o [znP] .none [zn1 l i i1 i2 i3,zn16 i4 i5 s l1 l2 l3 l4 l5 l6] (znQ znF0 [zn1 l7 i6 i7 i8 i9,zn16 i10 i11 s1 l8 l9 l10 l11 l12 l13]) (.out (znL 1 l8 (znL 1 l9 (znL 1 l10 (znL 1 l11 (znL 1 l12 (znL 1 l13 (znL 1 l7 (.ret (znQ znF0 [zn1 l7 i6 i7 i8 i9])))))))))))) (.done (znS 20 [(0,znP),(1,.ptr 1 0)] [] [zn1 l i i1 i2 i3,zn16 i4 i5 s l1 l2 l3 l4 l5 l6] 2)))) (((c2U nm an q mm z' x y d').B b).T.F.T.K)))):=by kernel_rfl
theorem n1N (nm:ByteArray) (an q mm z' x y d') (b:Bool) (q1x0 q1x1 q1x2 q1x3 q1x4 q1x5 q1x6) (q1x7:ByteArray) (q1x8) (q1x9:Nat) (q1x10 q1x11 q1x12 q1x13 q1x14):(((c2U nm an q mm z' x y d').B b).T.F.T.K (znS 20 [(0,znP),(1,.ptr 1 0)] [] [zn1 q1x0 q1x1 q1x2 q1x3 q1x4,zn5 q1x5 q1x6 q1x7 q1x8 q1x9 q1x10 q1x11 q1x12 q1x13 q1x14] 2)).prune (PH.of 8665580135494159736942624685)=
 .alt (.exR fun l=>znI6 fun i i1 i2 i3 i4 i5=>.exS fun s=>znR6 fun l1 l2 l3 l4 l5 l6=>.call a1f [znP,vS znb3] .none [zn1 q1x0 q1x1 q1x2 q1x3 q1x4,zn5 q1x5 q1x6 q1x7 q1x8 q1x9 q1x10 q1x11 q1x12 q1x13 q1x14] (znR (.tuple []) [zn1 l i i1 i2 i3,zn5 i4 i5 s l1 q1x9 l2 l3 l4 l5 l6]) (.alt (znI3 fun i6 i7 i8=>znR6 fun l7 l8 l9 l10 l11 l12=>znI6 fun i9 i10 i11 i12 i13 i14=>.exS fun s1=>znR6 fun l13 l14 l15 l16 l17 l18=>.call a1i [znP] .none [zn1 l i i1 i2 i3,zn5 i4 i5 s l1 q1x9 l2 l3 l4 l5 l6] (znR (.agg (zn3 i6 i7 i8 l7 l8 l9 l10 l11)) [zn1 l12 i9 i10 i11 i12,zn5 i13 i14 s1 l13 q1x9 l14 l15 l16 l17 l18]) (znL 1 l13 (znL 1 l14 (znL 1 [zn3 i6 i7 i8 l7 l8 l9 l10 l11] (znL 1 l16 (znL 1 l17 (znL 1 l18 (znL 1 l12 (.ret (znR (.agg [vI i13,vI i14,vS s1,znN 1 l13,(a1E Pg (y_s_api_Ty:TypeId) (AV.slice q1x9 l14 Own.full).dis.dis.dis),znN 8 [zn3 i6 i7 i8 l7 l8 l9 l10 l11],(a1E Pg (y_s_api_Con:TypeId) (AV.slice 0 l16 Own.full).dis.dis.dis),(a1E Pg (y_s_api_Mod:TypeId) (AV.slice 0 l17 Own.full).dis.dis.dis),(a1E Pg (y_s_api_Sig:TypeId) (AV.slice 0 l18 Own.full).dis.dis.dis)]) [zn1 l12 i9 i10 i11 i12])))))))))) (.exR fun l7=>znI6 fun i6 i7 i8 i9 i10 i11=>.exS fun s1=>znR6 fun l8 l9 l10 l11 l12 l13=>.call a1i [znP] .none [zn1 l i i1 i2 i3,zn5 i4 i5 s l1 q1x9 l2 l3 l4 l5 l6] (znQ znF0 [zn1 l7 i6 i7 i8 i9,zn5 i10 i11 s1 l8 q1x9 l9 l10 l11 l12 l13]) (znL 1 l8 (znL 1 l9 (znL 1 l10 (znL 1 l11 (znL 1 l12 (znL 1 l13 (znL 1 l7 (.ret (znQ znF0 [zn1 l7 i6 i7 i8 i9])))))))))))) (.exR fun l=>znI6 fun i i1 i2 i3 i4 i5=>.exS fun s=>znR6 fun l1 l2 l3 l4 l5 l6=>.call a1f [znP,vS znb3] .none [zn1 q1x0 q1x1 q1x2 q1x3 q1x4,zn5 q1x5 q1x6 q1x7 q1x8 q1x9 q1x10 q1x11 q1x12 q1x13 q1x14] (znQ znF0 [zn1 l i i1 i2 i3,zn5 i4 i5 s l1 q1x9 l2 l3 l4 l5 l6]) (znL 1 l1 (znL 1 l2 (znL 1 l3 (znL 1 l4 (znL 1 l5 (znL 1 l6 (znL 1 l (.ret (znQ znF0 [zn1 l i i1 i2 i3])))))))))):=by kernel_rfl
@[irreducible] noncomputable def c2V (nm:ByteArray) (an:Int) (ps mm:List (List AV)) (z' x y d':Int):KT:=KT.round Pg cfg0 rs0 kc5 v1k (znS 38 [(0,znP),(2,.lp 2 0 0),(5,.lp 5 0 0)] [(2,0,zn15 znb4),(5,0,zn18 an nm ps)] [zn1 mm z' x y d'] 1)
theorem z1Q (nm:ByteArray) (an ps mm z' x y d'):(KT.round Pg cfg0 rs0 kc5 v1k (znS 38 [(0,znP),(2,.lp 2 0 0),(5,.lp 5 0 0)] [(2,0,zn15 znb4),(5,0,zn18 an nm ps)] [zn1 mm z' x y d'] 1)).prune (PH.of 1008806300107870125)=
 .exB fun b=>.call a1l [znP,vI 1] .none [zn1 mm z' x y d'] (znR (vB b) [zn1 mm z' x y d']) (.branch b (zn10 a1z [znP,vI 1] [zn1 mm z' x y d'] (fun s l i i1 i2 i3=>.need ((ps.length+1).ble 2147483648) (.done (znS 38 [(0,znP),(2,.lp 2 0 0),(5,.lp 5 0 0)] [(2,0,zn15 znb4),(5,0,zn18 an nm (ps++[[(vS s)]]))] [zn1 l i i1 i2 i3] 1))) (fun l i i1 i2 i3=>.out (.ret (znQ znF0 [zn1 l i i1 i2 i3])))) (.out (.stage (.exB fun b1=>.exR fun l=>znI6 fun i i1 i2 i3 i4 i5=>.exS fun s=>znR6 fun l1 l2 l3 l4 l5 l6=>.call a1g [znP,vS znb1] .none [zn1 mm z' x y d',zn18 an nm ps] (znR (vB b1) [zn1 l i i1 i2 i3,zn17 i4 i5 s l1 l2 l3 l4 l5 l6]) (.branch b1 (.alt (.exI fun i6=>.exS fun s1=>znR3 fun l7 l8 l9=>znI6 fun i7 i8 i9 i10 i11 i12=>.exS fun s2=>znR6 fun l10 l11 l12 l13 l14 l15=>.call a1o [znP] .none [zn1 l i i1 i2 i3,zn17 i4 i5 s l1 l2 l3 l4 l5 l6] (znR (.agg (zn9 i6 s1 l7 l8)) [zn1 l9 i7 i8 i9 i10,zn17 i11 i12 s2 l10 l11 l12 l13 l14 l15]) (.done (znS 20 [(0,znP),(1,.ptr 1 0)] [] [zn1 l9 i7 i8 i9 i10,[vI i11,vI i12,vS s2,.slice 1 l10 .yes,.slice 4 [zn9 i6 s1 l7 l8] .full,.slice 0 l12 .full,.slice 0 l13 .full,.slice 0 l14 .full,.slice 0 l15 .full]] 2))) (.exR fun l7=>znI6 fun i6 i7 i8 i9 i10 i11=>.exS fun s1=>znR6 fun l8 l9 l10 l11 l12 l13=>.call a1o [znP] .none [zn1 l i i1 i2 i3,zn17 i4 i5 s l1 l2 l3 l4 l5 l6] (znQ znF0 [zn1 l7 i6 i7 i8 i9,zn17 i10 i11 s1 l8 l9 l10 l11 l12 l13]) (.out (znL 1 l8 (znL 1 l9 (znL 1 l10 (znL 1 l11 (znL 1 l12 (znL 1 l13 (znL 1 l7 (.ret (znQ znF0 [zn1 l7 i6 i7 i8 i9])))))))))))) (.done (znS 20 [(0,znP),(1,.ptr 1 0)] [] [zn1 l i i1 i2 i3,zn17 i4 i5 s l1 l2 l3 l4 l5 l6] 2)))) (((c2V nm an ps mm z' x y d').B b).T.F.T.K)))):=by kernel_rfl
theorem n1O (nm:ByteArray) (an ps mm z' x y d') (b:Bool) (q1x0 q1x1 q1x2 q1x3 q1x4 q1x5 q1x6) (q1x7:ByteArray) (q1x8) (q1x9:Nat) (q1x10 q1x11 q1x12 q1x13 q1x14):(((c2V nm an ps mm z' x y d').B b).T.F.T.K (znS 20 [(0,znP),(1,.ptr 1 0)] [] [zn1 q1x0 q1x1 q1x2 q1x3 q1x4,zn6 q1x5 q1x6 q1x7 q1x8 q1x9 q1x10 q1x11 q1x12 q1x13 q1x14] 2)).prune (PH.of 8665580135494159736942624685)=
 .alt (.exR fun l=>znI6 fun i i1 i2 i3 i4 i5=>.exS fun s=>znR6 fun l1 l2 l3 l4 l5 l6=>.call a1f [znP,vS znb3] .none [zn1 q1x0 q1x1 q1x2 q1x3 q1x4,zn6 q1x5 q1x6 q1x7 q1x8 q1x9 q1x10 q1x11 q1x12 q1x13 q1x14] (znR (.tuple []) [zn1 l i i1 i2 i3,zn6 i4 i5 s l1 q1x9 l2 l3 l4 l5 l6]) (.alt (znI3 fun i6 i7 i8=>znR6 fun l7 l8 l9 l10 l11 l12=>znI6 fun i9 i10 i11 i12 i13 i14=>.exS fun s1=>znR6 fun l13 l14 l15 l16 l17 l18=>.call a1i [znP] .none [zn1 l i i1 i2 i3,zn6 i4 i5 s l1 q1x9 l2 l3 l4 l5 l6] (znR (.agg (zn3 i6 i7 i8 l7 l8 l9 l10 l11)) [zn1 l12 i9 i10 i11 i12,zn6 i13 i14 s1 l13 q1x9 l14 l15 l16 l17 l18]) (znL 1 l13 (znL 1 l14 (znL 1 [zn3 i6 i7 i8 l7 l8 l9 l10 l11] (znL 1 l16 (znL 1 l17 (znL 1 l18 (znL 1 l12 (.ret (znR (.agg [vI i13,vI i14,vS s1,znN 1 l13,(a1E Pg (y_s_api_Ty:TypeId) (AV.slice q1x9 l14 Own.full).dis.dis.dis),znN 8 [zn3 i6 i7 i8 l7 l8 l9 l10 l11],(a1E Pg (y_s_api_Con:TypeId) (AV.slice 0 l16 Own.full).dis.dis.dis),(a1E Pg (y_s_api_Mod:TypeId) (AV.slice 0 l17 Own.full).dis.dis.dis),(a1E Pg (y_s_api_Sig:TypeId) (AV.slice 0 l18 Own.full).dis.dis.dis)]) [zn1 l12 i9 i10 i11 i12])))))))))) (.exR fun l7=>znI6 fun i6 i7 i8 i9 i10 i11=>.exS fun s1=>znR6 fun l8 l9 l10 l11 l12 l13=>.call a1i [znP] .none [zn1 l i i1 i2 i3,zn6 i4 i5 s l1 q1x9 l2 l3 l4 l5 l6] (znQ znF0 [zn1 l7 i6 i7 i8 i9,zn6 i10 i11 s1 l8 q1x9 l9 l10 l11 l12 l13]) (znL 1 l8 (znL 1 l9 (znL 1 l10 (znL 1 l11 (znL 1 l12 (znL 1 l13 (znL 1 l7 (.ret (znQ znF0 [zn1 l7 i6 i7 i8 i9])))))))))))) (.exR fun l=>znI6 fun i i1 i2 i3 i4 i5=>.exS fun s=>znR6 fun l1 l2 l3 l4 l5 l6=>.call a1f [znP,vS znb3] .none [zn1 q1x0 q1x1 q1x2 q1x3 q1x4,zn6 q1x5 q1x6 q1x7 q1x8 q1x9 q1x10 q1x11 q1x12 q1x13 q1x14] (znQ znF0 [zn1 l i i1 i2 i3,zn6 i4 i5 s l1 q1x9 l2 l3 l4 l5 l6]) (znL 1 l1 (znL 1 l2 (znL 1 l3 (znL 1 l4 (znL 1 l5 (znL 1 l6 (znL 1 l (.ret (znQ znF0 [zn1 l i i1 i2 i3])))))))))):=by kernel_rfl
end Go.Proofs
end

section
/- TREES: loops told once for all ways that lead there -/
set_option linter.unusedVariables false
namespace Go.Eng
def KT.setS (s':St):KT→KT
 | .loop f b x _ k=>.loop f b x s' k
 |t=>t
section
variable {P:Program} {cfg:FuncId→FCfg} {call:CallF} {rs:TypeId→List KSh} {QD:List (St→Prop)} {QR:CRes→Prop}
theorem e2K {kc:KC} {σ:Type} {t Y:KT} (S:σ→St) (Inv:σ→Prop) (m:σ→Nat) (a0:σ) (hkc:∀QD,KCS P cfg call QD QR kc) (ht:t=Y.setS (S a0)) (h0:t.atLoop=some (S a0)) (hi:Inv a0)
  (hr:∀a,Inv a→(Y.round P cfg rs kc (S a)).wp P cfg call ((fun s=>∃a',(Inv a'∧m a'<m a)∧s=S a')::QD) QR):t.wp P cfg call QD QR:=by
 subst ht
 cases Y with
 |loop f b x s k=>exact m1J S Inv m a0 hkc h0 hi hr
 |_=>cases h0
end
end Go.Eng
end

section
/- PARSE: the program's reader: declarations (printed by mkr11.py) -/
set_option linter.unusedVariables false
set_option linter.unusedSimpArgs false
set_option maxRecDepth 100000
open Go Go.Eng Go.Pa
open Go.Lx (T Tok)
namespace Go.Proofs
theorem j2B {σ:Type} {t Y:KT} {QD:List (St→Prop)} {QR:CRes→Prop} (S:σ→St) (Inv:σ→Prop) (m:σ→Nat) (a0:σ) (ht:t=Y.setS (S a0)) (h0:t.atLoop=some (S a0)) (hi:Inv a0)
  (hr:∀a,Inv a→(Y.round Pg cfg0 rs0 kc5 (S a)).wp Pg cfg0 evp ((fun s=>∃a',(Inv a'∧m a'<m a)∧s=S a')::QD) QR):t.wp Pg cfg0 evp QD QR:=
 e2K (rs:=rs0) (kc:=kc5) S Inv m a0 (fun _=>hkc5) ht h0 hi hr
abbrev ty4 (t:Ty):List AV:=[vI (tyK t),vS (tyN t),.slice 1 (tyP t) .no,.slice 4 (tyQ t) .no]
abbrev dcl (k:Int) (at_:Int) (nm:T) (psz:Nat) (ps:List (List AV)) (pow:Own) (tsz:Nat) (ts:List (List AV)):List AV:=[vI k,vI at_,vS (bs nm),.slice psz ps pow,.slice tsz ts .full,S0,S0,S0,S0]
theorem low0 (n:Nat):lowss n []=true:=rfl
theorem h1p (t:Ty) (n:Nat):lowss n [ty4 t]=true:=by
 have:=k1G n [t.row]
 simpa only[avss,g1y] using this
theorem r1E (x:Exp):lowss 1 [ex8 x]=true:=by
 have:=k1G 1 [x.row]
 simpa only[avss,b1z] using this
theorem f1I {n:Nat} {k a:Int} {nm:T} {psz tsz:Nat} {ps ts:List (List AV)} {pow:Own} (h1:lowss n ps=true) (h2:lowss n ts=true):lowss n [dcl k a nm psz ps pow tsz ts]=true:=by
 simp [dcl,lowss,lows,AV.low,h1,h2]
 exact⟨rfl,rfl,rfl⟩
theorem k1v:a1E Pg (y_s_api_Con:TypeId) (AV.slice 0 [] .full).dis.dis.dis=.slice 2 [] .no:=by kernel_rfl
theorem k1w:a1E Pg (y_s_api_Mod:TypeId) (AV.slice 0 [] .full).dis.dis.dis=.slice 5 [] .no:=by kernel_rfl
theorem k1x:a1E Pg (y_s_api_Sig:TypeId) (AV.slice 0 [] .full).dis.dis.dis=.slice 5 [] .no:=by kernel_rfl
def pOw:List T→Own
 |[_]=>.full
 |_=>.yes
theorem j2C (a:Nat) (n:T) (x:Exp):decV (.val a n none x)=.agg [vI 1,vI a,vS (bs n),.slice 1 [] .no,.slice 4 [] .no,.slice 8 [ex8 x] .no,.slice 2 [] .no,.slice 5 [] .no,.slice 5 [] .no]:=by
 rw[←p1O];simp only[DK,DA,DN,DP,DTs,DEs,Option.toList,List.map_nil,avss,b1z]<;>rfl
theorem h2K (a:Nat) (n:T) (t:Ty) (x:Exp):decV (.val a n (some t) x)=.agg [vI 1,vI a,vS (bs n),.slice 1 [] .no,.slice 4 [ty4 t] .no,.slice 8 [ex8 x] .no,.slice 2 [] .no,.slice 5 [] .no,.slice 5 [] .no]:=by
 rw[←p1O];simp only[DK,DA,DN,DP,DTs,DEs,Option.toList,List.map_cons,List.map_nil,avss,b1z,g1y]<;>rfl
theorem g2B (a:Nat) (n:T) (ps:List T) (x:Exp):decV (.func a n ps none x)=.agg [vI 2,vI a,vS (bs n),.slice 1 (c1m ps) .no,.slice 4 [] .no,.slice 8 [ex8 x] .no,.slice 2 [] .no,.slice 5 [] .no,.slice 5 [] .no]:=by
 rw[←p1O];simp only[DK,DA,DN,DP,DTs,DEs,Option.toList,List.map_nil,avss,b1z]
theorem c2w (a:Nat) (n:T) (ps:List T) (t:Ty) (x:Exp):decV (.func a n ps (some t) x)=.agg [vI 2,vI a,vS (bs n),.slice 1 (c1m ps) .no,.slice 4 [ty4 t] .no,.slice 8 [ex8 x] .no,.slice 2 [] .no,.slice 5 [] .no,.slice 5 [] .no]:=by
 rw[←p1O];simp only[DK,DA,DN,DP,DTs,DEs,Option.toList,List.map_cons,List.map_nil,avss,b1z,g1y]
theorem j2D {z n:Nat} (hN:n+1<2147483648) (ih:∀m,m<n+1→PE z m) {l:List Tok} {d:Nat} (hg:Gd l) (hd:0<d) (hn:8*l.length+1≤n+1) (hB:d+(n+1)<BIG):RC decV (pDec z (n+1) l) z d a1C [.ptr 0 0] (rH l z d):=by
 generalize hX:pDec z (n+1) l=X
 rw[pDec] at hX
 cases l with
 |nil=>
  have hX0:X=.no 11 z:=by rw[←hX];rfl
  refine i1E (b1k (z1N ..) ?_)
  refine c1e (b1J [] z d _) (fun hw=>by cases hw) (fun hw=>?_)
  refine c1W (c1q Gd.nil hd (by omega)) (fun u r hF hg1=>by cases hF) (fun e p r hF he=>b1s ?_ he)
  have hF':need z wFun []=.no e p:=hF
  rw[hX0];unfold need at hF';rw[if_neg (fun h=>by cases h)] at hF';injection hF' with e1 e2;rw[←e1,←e2];rfl
 |cons tk l=>
 have hlen:(tk::l).length=l.length+1:=rfl
 refine i1E (b1k (z1O ..) ⟨_,_,_,_,row0,?_⟩)
 refine c1e (b1J (tk::l) z d _) (fun hw=>?_) (fun hw=>?_)
 ·
  have hw1:isW wVal (tk::l)=true:=hw
  rw[if_pos hw1] at hX
  refine p1K (j1k (k:=1) hg.tail hd (by omega)) (fun nm r hF hg1=>?_) (fun e p r hF he=>b1s (by rw[←hX,hF];rfl) he)
  have hl1:=k1d hF
  simp only[List.tail_cons] at hl1
  rw[hF] at hX;simp only[Res.bind] at hX
  cases n with
  |zero=>omega
  |succ k=>
  have I2:=ih k (by omega)
  rw[g1b] at hX
  have hlp:∀j,lowss j ([]:List (List AV))=true:=low0
  refine a1s ?_
  have cT:=w1x (K:=[dcl 1 tk.at_ nm 0 [] .full 0 []]) (b1J r z d ⟨#[58]⟩) (fun _=>rfl) (fun _=>rfl) (f1I (hlp 2) (low0 2))
  cases hc:isW p1z r with
  |true=>
   have hc':isW (tx ⟨#[58]⟩) r=true:=hc
   have hlc:=a1T hc
   rw[hc'] at cT
   rw[if_pos hc] at hX
   refine⟨true,_,_,_,_,_,_,_,_,_,_,_,_,_,_,cT,a1d (fun _=>?_) tf⟩
   rcases d1F (K:=[dcl 1 tk.at_ nm 0 [] .full 0 []]) (d1a hd ((u1W z k).Ty hg1.tail (by omega) (by omega))) g1d (fun a k=>s1A _ a) (f1I (hlp 2) (low0 2)) with ⟨t,r2,hF2,hg2,c2⟩|⟨e,p,r2,hF2,he,c2⟩
   ·have hl2:=(lenT z k).ty hF2
    rw[hF2] at hX;simp only[Res.bind] at hX
    simp only[tyV,g1y] at c2
    refine .inl ⟨_,_,_,_,_,_,_,_,_,_,_,_,_,_,_,_,_,_,c2,a1e (b1k (n1M ..) ?_)⟩
    rcases d1F (K:=[dcl 1 tk.at_ nm 0 [] .full 4 [ty4 t]]) (c1q (w:=⟨#[61]⟩) hg2 hd (by omega)) (fun _=>rfl) (fun a k=>rfl) (f1I (hlp 2) (h1p t 2)) with ⟨u,r3,hF3,hg3,c3⟩|⟨e,p,r3,hF3,he,c3⟩
    ·have hF3':need z wEq r2=.ok u r3:=hF3
     have hl3:=c1K hF3'
     rw[hF3'] at hX;simp only[Res.bind] at hX
     refine .inl ⟨_,_,_,_,_,_,_,_,_,_,_,_,_,_,c3,?_⟩
     rcases d1F (K:=[dcl 1 tk.at_ nm 0 [] .full 4 [ty4 t]]) (d1a hd (I2.Exp hg3 (by omega) (by omega))) g1d (fun a k=>j1l _ a) (f1I (hlp 2) (h1p t 2)) with ⟨x,r4,hF4,hg4,c4⟩|⟨e,p,r4,hF4,he,c4⟩
     ·rw[hF4] at hX;simp only at hX
      simp only[expV,b1z] at c4
      refine .inl ⟨_,_,_,_,_,_,_,_,_,_,_,_,_,_,_,_,_,_,_,_,_,_,c4,hlp 1,h1p t 1,r1E x,rfl,rfl,rfl,b1g ..,c1l (a:=.val tk.at_ nm (some t) x) (l:=r4) hX.symm hg4 ?_⟩
      rw[h1T,o1p,k1v,k1w,k1x];exact(h2K ..).symm
     ·refine .inr ⟨_,_,_,_,_,_,_,_,_,_,_,_,_,_,c4,hlp 1,h1p t 1,rfl,rfl,rfl,rfl,b1g ..,b1s (by rw[←hX,hF4]) he⟩
    ·have hF3':need z wEq r2=.no e p:=hF3
     refine .inr ⟨_,_,_,_,_,_,_,_,_,_,_,_,_,_,c3,hlp 1,h1p t 1,rfl,rfl,rfl,rfl,b1g ..,b1s (by rw[←hX,hF3']<;>rfl) he⟩
   ·refine .inr ⟨_,_,_,_,_,_,_,_,_,_,_,_,_,_,c2,a1h ⟨hlp 1,rfl,rfl,rfl,rfl,rfl,b1g ..,b1s (by rw[←hX,hF2];rfl) he⟩⟩
  |false=>
   have hc':isW (tx ⟨#[58]⟩) r=false:=hc
   rw[hc'] at cT
   rw[if_neg (by rw[hc];decide)] at hX
   refine⟨false,_,_,_,_,_,_,_,_,_,_,_,_,_,_,cT,a1d nf (fun _=>a1e (b1k (n1M ..) ?_))⟩
   have hg2:=hg1
   have hl2:r.length≤r.length:=Nat.le_refl _
   revert hg2 hl2
   generalize hr2:r=r2
   intro hg2 hl2
   have hlr:r.length=r2.length:=by rw[hr2]
   rw[hr2] at hX
   rcases d1F (K:=[dcl 1 tk.at_ nm 0 [] .full 0 []]) (c1q (w:=⟨#[61]⟩) hg2 hd (by omega)) (fun _=>rfl) (fun a k=>rfl) (f1I (hlp 2) (low0 2)) with ⟨u,r3,hF3,hg3,c3⟩|⟨e,p,r3,hF3,he,c3⟩
   ·have hF3':need z wEq r2=.ok u r3:=hF3
    have hl3:=c1K hF3'
    rw[hF3'] at hX;simp only[Res.bind] at hX
    refine .inl ⟨_,_,_,_,_,_,_,_,_,_,_,_,_,_,c3,?_⟩
    rcases d1F (K:=[dcl 1 tk.at_ nm 0 [] .full 0 []]) (d1a hd (I2.Exp hg3 (by omega) (by omega))) g1d (fun a k=>j1l _ a) (f1I (hlp 2) (low0 2)) with ⟨x,r4,hF4,hg4,c4⟩|⟨e,p,r4,hF4,he,c4⟩
    ·rw[hF4] at hX;simp only at hX
     simp only[expV,b1z] at c4
     refine .inl ⟨_,_,_,_,_,_,_,_,_,_,_,_,_,_,_,_,_,_,_,_,_,_,c4,hlp 1,low0 1,r1E x,rfl,rfl,rfl,b1g ..,c1l (a:=.val tk.at_ nm none x) (l:=r4) hX.symm hg4 ?_⟩
     rw[h1T,j1m,k1v,k1w,k1x];exact(j2C ..).symm
    ·refine .inr ⟨_,_,_,_,_,_,_,_,_,_,_,_,_,_,c4,hlp 1,low0 1,rfl,rfl,rfl,rfl,b1g ..,b1s (by rw[←hX,hF4]) he⟩
   ·have hF3':need z wEq r2=.no e p:=hF3
    refine .inr ⟨_,_,_,_,_,_,_,_,_,_,_,_,_,_,c3,hlp 1,low0 1,rfl,rfl,rfl,rfl,b1g ..,b1s (by rw[←hX,hF3']<;>rfl) he⟩
 ·have hw1:isW wVal (tk::l)=false:=hw
  rw[if_neg (by rw[hw1];decide)] at hX
  refine c1W (c1q hg hd (by omega)) (fun u r0 hF hg0=>?_) (fun e p r hF he=>b1s (by have h':need z wFun (tk::l)=.no e p:=hF;rw[←hX,h'];rfl) he)
  have hF':need z wFun (tk::l)=.ok u r0:=hF
  have hl0:=c1K hF'
  rw[hF'] at hX;simp only[Res.bind] at hX
  refine p1K (j1k (k:=1) hg0 hd (by omega)) (fun nm r1 hF1 hg1=>?_) (fun e p r hF he=>b1s (by rw[←hX,hF]) he)
  have hl1:=k1d hF1
  rw[hF1] at hX;simp only at hX
  refine p1K (j1k (k:=1) hg1 hd (by omega)) (fun p1 r2 hF2 hg2=>?_) (fun e p r hF he=>b1s (by rw[←hX,hF]) he)
  have hl2:=k1d hF2
  rw[hF2] at hX;simp only at hX
  refine j2B (Y:=v1k) (fun s:List T×List Tok=>⟨tm2 38 [(0,(.ptr 0 0)),(2,(.lp 2 0 0)),(5,(.lp 5 0 0))],lm2 38 [(2,(0,[vI 0,vI 0,vS ⟨#[]⟩,S0,S0,S0,S0,S0,S0])),(5,(0,dcl 2 tk.at_ nm 1 (c1m s.1) (pOw s.1) 0 []))],⟨[hp5 (tks s.2) z 0 0 d],[],.none,1⟩⟩)
   (fun s=>X=((g1b z n (params z s.1 s.2).2).bind fun b r'=>.ok (.func tk.at_ nm (params z s.1 s.2).1 b.1 b.2) r')∧Gd s.2∧s.1.length+s.2.length≤l.length∧s.2.length<r1.length∧s.1≠[]) (fun s=>s.2.length) ([p1],r2) (by kernel_rfl) (by kernel_rfl) ⟨hX.symm,hg2,by simp only[List.length_cons,List.length_nil];omega,hl2,by simp⟩ ?_
  rintro ⟨ps,r⟩ ⟨hX,hg1,hpl,hrl,hne⟩
  dsimp only at hX hg1 hpl hrl hne⊢
  have hX:=hX.symm
  have hlp:∀j,lowss j (c1m ps)=true:=fun j=>h1a j ps
  cases ps with
  |nil=>exact absurd rfl hne
  |cons q ps=>
  cases ps with
  |nil=>
   refine b1k (z1P ..) (h1S (g1U r z d 1) (fun hk=>?_) (fun hk=>?_))
   ·cases r with
    |nil=>cases hk
    |cons t r=>
    have hk':(t.kind==1)=true:=hk
    have htk:taken z 1 (t::r)=.ok t.text r:=by simp only[taken,hk',if_true]
    refine p1K (j1k (k:=1) hg1 hd (by omega)) (fun w r3 hF3 hg3=>?_) (fun e p r3 hF3 he=>by rw[htk] at hF3;cases hF3)
    rw[htk] at hF3
    injection hF3 with e1 e2
    subst e1 e2
    have hpr:params z ([q]) (t::r)=params z ([q]++[t.text]) r:=by rw[params,if_pos hk']
    rw[hpr] at hX
    simp only[List.length_cons,List.length_nil] at hpl hrl
    exact a1e ⟨([q]++[t.text],r),⟨⟨hX.symm,hg3,by simp only[List.length_append,List.length_cons,List.length_nil];omega,by simp only;omega,by simp⟩,by simp only[List.length_cons];omega⟩,rfl⟩
   ·have hpr:params z ([q]) r=([q],r):=by
     cases r with
     |nil=>rw[params]
     |cons t r=>have hk':(t.kind==1)=false:=hk;rw[params,if_neg (by rw[hk'];decide)]
    rw[hpr] at hX
    dsimp only at hX
    cases n with
    |zero=>omega
    |succ k=>
    have I2:=ih k (by omega)
    simp only[List.length_cons,List.length_nil] at hpl
    rw[g1b] at hX
    refine a1h ?_
    refine a1s ?_
    have cT:=w1x (K:=[dcl 2 tk.at_ nm 1 (c1m [q]) .full 0 []]) (b1J r z d ⟨#[58]⟩) (fun _=>rfl) (fun _=>rfl) (f1I (hlp 2) (low0 2))
    cases hc:isW p1z r with
    |true=>
     have hc':isW (tx ⟨#[58]⟩) r=true:=hc
     have hlc:=a1T hc
     rw[hc'] at cT
     rw[if_pos hc] at hX
     refine⟨true,_,_,_,_,_,_,_,_,_,_,_,_,_,_,cT,a1d (fun _=>?_) tf⟩
     rcases d1F (K:=[dcl 2 tk.at_ nm 1 (c1m [q]) .full 0 []]) (d1a hd ((u1W z k).Ty hg1.tail (by omega) (by omega))) g1d (fun a k=>s1A _ a) (f1I (hlp 2) (low0 2)) with ⟨t,r2,hF2,hg2,c2⟩|⟨e,p,r2,hF2,he,c2⟩
     ·have hl2:=(lenT z k).ty hF2
      rw[hF2] at hX;simp only[Res.bind] at hX
      simp only[tyV,g1y] at c2
      refine .inl ⟨_,_,_,_,_,_,_,_,_,_,_,_,_,_,_,_,_,_,c2,a1e (b1k (n1N ..) ?_)⟩
      rcases d1F (K:=[dcl 2 tk.at_ nm 1 (c1m [q]) .full 4 [ty4 t]]) (c1q (w:=⟨#[61]⟩) hg2 hd (by omega)) (fun _=>rfl) (fun a k=>rfl) (f1I (hlp 2) (h1p t 2)) with ⟨u,r3,hF3,hg3,c3⟩|⟨e,p,r3,hF3,he,c3⟩
      ·have hF3':need z wEq r2=.ok u r3:=hF3
       have hl3:=c1K hF3'
       rw[hF3'] at hX;simp only[Res.bind] at hX
       refine .inl ⟨_,_,_,_,_,_,_,_,_,_,_,_,_,_,c3,?_⟩
       rcases d1F (K:=[dcl 2 tk.at_ nm 1 (c1m [q]) .full 4 [ty4 t]]) (d1a hd (I2.Exp hg3 (by omega) (by omega))) g1d (fun a k=>j1l _ a) (f1I (hlp 2) (h1p t 2)) with ⟨x,r4,hF4,hg4,c4⟩|⟨e,p,r4,hF4,he,c4⟩
       ·rw[hF4] at hX;simp only at hX
        simp only[expV,b1z] at c4
        refine .inl ⟨_,_,_,_,_,_,_,_,_,_,_,_,_,_,_,_,_,_,_,_,_,_,c4,hlp 1,h1p t 1,r1E x,rfl,rfl,rfl,b1g ..,c1l (a:=.func tk.at_ nm [q] (some t) x) (l:=r4) hX.symm hg4 ?_⟩
        rw[o1p,k1v,k1w,k1x];exact(c2w ..).symm
       ·refine .inr ⟨_,_,_,_,_,_,_,_,_,_,_,_,_,_,c4,hlp 1,h1p t 1,rfl,rfl,rfl,rfl,b1g ..,b1s (by rw[←hX,hF4]) he⟩
      ·have hF3':need z wEq r2=.no e p:=hF3
       refine .inr ⟨_,_,_,_,_,_,_,_,_,_,_,_,_,_,c3,hlp 1,h1p t 1,rfl,rfl,rfl,rfl,b1g ..,b1s (by rw[←hX,hF3']<;>rfl) he⟩
     ·refine .inr ⟨_,_,_,_,_,_,_,_,_,_,_,_,_,_,c2,a1h ⟨hlp 1,rfl,rfl,rfl,rfl,rfl,b1g ..,b1s (by rw[←hX,hF2];rfl) he⟩⟩
    |false=>
     have hc':isW (tx ⟨#[58]⟩) r=false:=hc
     rw[hc'] at cT
     rw[if_neg (by rw[hc];decide)] at hX
     refine⟨false,_,_,_,_,_,_,_,_,_,_,_,_,_,_,cT,a1d nf (fun _=>a1e (b1k (n1N ..) ?_))⟩
     have hg2:=hg1
     have hl2:r.length≤r.length:=Nat.le_refl _
     revert hg2 hl2
     generalize hr2:r=r2
     intro hg2 hl2
     have hlr:r.length=r2.length:=by rw[hr2]
     rw[hr2] at hX
     rcases d1F (K:=[dcl 2 tk.at_ nm 1 (c1m [q]) .full 0 []]) (c1q (w:=⟨#[61]⟩) hg2 hd (by omega)) (fun _=>rfl) (fun a k=>rfl) (f1I (hlp 2) (low0 2)) with ⟨u,r3,hF3,hg3,c3⟩|⟨e,p,r3,hF3,he,c3⟩
     ·have hF3':need z wEq r2=.ok u r3:=hF3
      have hl3:=c1K hF3'
      rw[hF3'] at hX;simp only[Res.bind] at hX
      refine .inl ⟨_,_,_,_,_,_,_,_,_,_,_,_,_,_,c3,?_⟩
      rcases d1F (K:=[dcl 2 tk.at_ nm 1 (c1m [q]) .full 0 []]) (d1a hd (I2.Exp hg3 (by omega) (by omega))) g1d (fun a k=>j1l _ a) (f1I (hlp 2) (low0 2)) with ⟨x,r4,hF4,hg4,c4⟩|⟨e,p,r4,hF4,he,c4⟩
      ·rw[hF4] at hX;simp only at hX
       simp only[expV,b1z] at c4
       refine .inl ⟨_,_,_,_,_,_,_,_,_,_,_,_,_,_,_,_,_,_,_,_,_,_,c4,hlp 1,low0 1,r1E x,rfl,rfl,rfl,b1g ..,c1l (a:=.func tk.at_ nm [q] none x) (l:=r4) hX.symm hg4 ?_⟩
       rw[j1m,k1v,k1w,k1x];exact(g2B ..).symm
      ·refine .inr ⟨_,_,_,_,_,_,_,_,_,_,_,_,_,_,c4,hlp 1,low0 1,rfl,rfl,rfl,rfl,b1g ..,b1s (by rw[←hX,hF4]) he⟩
     ·have hF3':need z wEq r2=.no e p:=hF3
      refine .inr ⟨_,_,_,_,_,_,_,_,_,_,_,_,_,_,c3,hlp 1,low0 1,rfl,rfl,rfl,rfl,b1g ..,b1s (by rw[←hX,hF3']<;>rfl) he⟩
  |cons q2 ps=>
   refine b1k (z1Q ..) (h1S (g1U r z d 1) (fun hk=>?_) (fun hk=>?_))
   ·cases r with
    |nil=>cases hk
    |cons t r=>
    have hk':(t.kind==1)=true:=hk
    have htk:taken z 1 (t::r)=.ok t.text r:=by simp only[taken,hk',if_true]
    refine p1K (j1k (k:=1) hg1 hd (by omega)) (fun w r3 hF3 hg3=>?_) (fun e p r3 hF3 he=>by rw[htk] at hF3;cases hF3)
    rw[htk] at hF3
    injection hF3 with e1 e2
    subst e1 e2
    have hpr:params z (q::q2::ps) (t::r)=params z (q::q2::ps++[t.text]) r:=by rw[params,if_pos hk']
    rw[hpr] at hX
    simp only[List.length_cons,List.length_nil] at hpl hrl
    exact⟨f2C (by simp only[c1m,List.length_map,List.length_cons];omega),a1e ⟨(q::q2::ps++[t.text],r),⟨⟨hX.symm,hg3,by simp only[List.length_append,List.length_cons,List.length_nil];omega,by simp only;omega,by simp⟩,by simp only[List.length_cons];omega⟩,by simp only[c1m,List.map_append,List.map_cons,List.map_nil,List.cons_append];rfl⟩⟩
   ·have hpr:params z (q::q2::ps) r=(q::q2::ps,r):=by
     cases r with
     |nil=>rw[params]
     |cons t r=>have hk':(t.kind==1)=false:=hk;rw[params,if_neg (by rw[hk'];decide)]
    rw[hpr] at hX
    dsimp only at hX
    cases n with
    |zero=>omega
    |succ k=>
    have I2:=ih k (by omega)
    simp only[List.length_cons,List.length_nil] at hpl
    rw[g1b] at hX
    refine a1h ?_
    refine a1s ?_
    have cT:=w1x (K:=[dcl 2 tk.at_ nm 1 (c1m (q::q2::ps)) .yes 0 []]) (b1J r z d ⟨#[58]⟩) (fun _=>rfl) (fun _=>rfl) (f1I (hlp 2) (low0 2))
    cases hc:isW p1z r with
    |true=>
     have hc':isW (tx ⟨#[58]⟩) r=true:=hc
     have hlc:=a1T hc
     rw[hc'] at cT
     rw[if_pos hc] at hX
     refine⟨true,_,_,_,_,_,_,_,_,_,_,_,_,_,_,cT,a1d (fun _=>?_) tf⟩
     rcases d1F (K:=[dcl 2 tk.at_ nm 1 (c1m (q::q2::ps)) .yes 0 []]) (d1a hd ((u1W z k).Ty hg1.tail (by omega) (by omega))) g1d (fun a k=>s1A _ a) (f1I (hlp 2) (low0 2)) with ⟨t,r2,hF2,hg2,c2⟩|⟨e,p,r2,hF2,he,c2⟩
     ·have hl2:=(lenT z k).ty hF2
      rw[hF2] at hX;simp only[Res.bind] at hX
      simp only[tyV,g1y] at c2
      refine .inl ⟨_,_,_,_,_,_,_,_,_,_,_,_,_,_,_,_,_,_,c2,a1e (b1k (n1O ..) ?_)⟩
      rcases d1F (K:=[dcl 2 tk.at_ nm 1 (c1m (q::q2::ps)) .yes 4 [ty4 t]]) (c1q (w:=⟨#[61]⟩) hg2 hd (by omega)) (fun _=>rfl) (fun a k=>rfl) (f1I (hlp 2) (h1p t 2)) with ⟨u,r3,hF3,hg3,c3⟩|⟨e,p,r3,hF3,he,c3⟩
      ·have hF3':need z wEq r2=.ok u r3:=hF3
       have hl3:=c1K hF3'
       rw[hF3'] at hX;simp only[Res.bind] at hX
       refine .inl ⟨_,_,_,_,_,_,_,_,_,_,_,_,_,_,c3,?_⟩
       rcases d1F (K:=[dcl 2 tk.at_ nm 1 (c1m (q::q2::ps)) .yes 4 [ty4 t]]) (d1a hd (I2.Exp hg3 (by omega) (by omega))) g1d (fun a k=>j1l _ a) (f1I (hlp 2) (h1p t 2)) with ⟨x,r4,hF4,hg4,c4⟩|⟨e,p,r4,hF4,he,c4⟩
       ·rw[hF4] at hX;simp only at hX
        simp only[expV,b1z] at c4
        refine .inl ⟨_,_,_,_,_,_,_,_,_,_,_,_,_,_,_,_,_,_,_,_,_,_,c4,hlp 1,h1p t 1,r1E x,rfl,rfl,rfl,b1g ..,c1l (a:=.func tk.at_ nm (q::q2::ps) (some t) x) (l:=r4) hX.symm hg4 ?_⟩
        rw[o1p,k1v,k1w,k1x];exact(c2w ..).symm
       ·refine .inr ⟨_,_,_,_,_,_,_,_,_,_,_,_,_,_,c4,hlp 1,h1p t 1,rfl,rfl,rfl,rfl,b1g ..,b1s (by rw[←hX,hF4]) he⟩
      ·have hF3':need z wEq r2=.no e p:=hF3
       refine .inr ⟨_,_,_,_,_,_,_,_,_,_,_,_,_,_,c3,hlp 1,h1p t 1,rfl,rfl,rfl,rfl,b1g ..,b1s (by rw[←hX,hF3']<;>rfl) he⟩
     ·refine .inr ⟨_,_,_,_,_,_,_,_,_,_,_,_,_,_,c2,a1h ⟨hlp 1,rfl,rfl,rfl,rfl,rfl,b1g ..,b1s (by rw[←hX,hF2];rfl) he⟩⟩
    |false=>
     have hc':isW (tx ⟨#[58]⟩) r=false:=hc
     rw[hc'] at cT
     rw[if_neg (by rw[hc];decide)] at hX
     refine⟨false,_,_,_,_,_,_,_,_,_,_,_,_,_,_,cT,a1d nf (fun _=>a1e (b1k (n1O ..) ?_))⟩
     have hg2:=hg1
     have hl2:r.length≤r.length:=Nat.le_refl _
     revert hg2 hl2
     generalize hr2:r=r2
     intro hg2 hl2
     have hlr:r.length=r2.length:=by rw[hr2]
     rw[hr2] at hX
     rcases d1F (K:=[dcl 2 tk.at_ nm 1 (c1m (q::q2::ps)) .yes 0 []]) (c1q (w:=⟨#[61]⟩) hg2 hd (by omega)) (fun _=>rfl) (fun a k=>rfl) (f1I (hlp 2) (low0 2)) with ⟨u,r3,hF3,hg3,c3⟩|⟨e,p,r3,hF3,he,c3⟩
     ·have hF3':need z wEq r2=.ok u r3:=hF3
      have hl3:=c1K hF3'
      rw[hF3'] at hX;simp only[Res.bind] at hX
      refine .inl ⟨_,_,_,_,_,_,_,_,_,_,_,_,_,_,c3,?_⟩
      rcases d1F (K:=[dcl 2 tk.at_ nm 1 (c1m (q::q2::ps)) .yes 0 []]) (d1a hd (I2.Exp hg3 (by omega) (by omega))) g1d (fun a k=>j1l _ a) (f1I (hlp 2) (low0 2)) with ⟨x,r4,hF4,hg4,c4⟩|⟨e,p,r4,hF4,he,c4⟩
      ·rw[hF4] at hX;simp only at hX
       simp only[expV,b1z] at c4
       refine .inl ⟨_,_,_,_,_,_,_,_,_,_,_,_,_,_,_,_,_,_,_,_,_,_,c4,hlp 1,low0 1,r1E x,rfl,rfl,rfl,b1g ..,c1l (a:=.func tk.at_ nm (q::q2::ps) none x) (l:=r4) hX.symm hg4 ?_⟩
       rw[j1m,k1v,k1w,k1x];exact(g2B ..).symm
      ·refine .inr ⟨_,_,_,_,_,_,_,_,_,_,_,_,_,_,c4,hlp 1,low0 1,rfl,rfl,rfl,rfl,b1g ..,b1s (by rw[←hX,hF4]) he⟩
     ·have hF3':need z wEq r2=.no e p:=hF3
      refine .inr ⟨_,_,_,_,_,_,_,_,_,_,_,_,_,_,c3,hlp 1,low0 1,rfl,rfl,rfl,rfl,b1g ..,b1s (by rw[←hX,hF3']<;>rfl) he⟩
end Go.Proofs
end

section
/- PARSE: the program's reader: all rules of expressions -/
set_option linter.unusedVariables false
set_option linter.unusedSimpArgs false
set_option maxRecDepth 100000
open Go Go.Eng Go.Pa
open Go.Lx (T Tok)
namespace Go.Proofs
theorem g2C (z:Nat):∀n,n<2147483648→PE z n:=by
 intro n
 induction n using Nat.strongRecOn with
 |ind n IH=>
  intro hN
  cases n with
  |zero=>
   refine⟨fun _ _ h=>by omega,?_,fun _ _ h=>by omega,fun _ _ h=>by omega,fun _ _ h=>by omega,fun _ _ h=>by omega⟩
   intro lv l d hlv _ _ h
   omega
  |succ n=>
   have ih:∀m,m<n+1→PE z m:=fun m hm=>IH m hm (by omega)
   have I:=ih n (Nat.lt_succ_self n)
   have hexp:∀{l:List Tok} {d:Nat},Gd l→0<d→8*l.length+7≤n+1→d+(n+1)<BIG→RC expV (pExp z (n+1) l) z d a1M [.ptr 0 0] (rH l z d):=fun hg hd hn hB=>j2K I hg hd hn hB
   refine⟨hexp,fun {lv l d} hlv hg hd hn hB=>?_,fun hg hd hn hB=>j2L ih hg hd hn hB,fun hg hd hn hB=>h2J hN ih hg hd hn hB,fun hg hd hn hB=>pe_br hN I hexp ih hg hd hn hB,fun hg hd hn hB=>j2D hN ih hg hd hn hB⟩
   match lv,hlv with
   |0,_=>exact h2U ih hg hd hn hB
   |1,_=>exact h2S ih hg hd hn hB
   |2,_=>exact h2Q ih hg hd hn hB
   |3,_=>exact h2O I hg hd hn hB
end Go.Proofs
end

section
/- PARSE: expressions are typed, not too large; the program's RightExp -/
set_option linter.unusedVariables false
set_option linter.unusedSimpArgs false
set_option maxRecDepth 100000
open Go Go.Eng Go.Pa
open Go.Lx (T Tok)
namespace Go.Proofs
def Wu (n:Nat):Nat:=100000*n
theorem v1w (a b:Nat):Wu (a+b)=Wu a+Wu b:=Nat.mul_add ..
theorem v1x:Wu 1=100000:=rfl
theorem i2q (a:Nat):Wu (a+1)=100000+Wu a:=by rw[v1w,v1x,Nat.add_comm]
theorem x1k {a b:Nat} (h:a≤b):Wu a≤Wu b:=Nat.mul_le_mul_left _ h
structure OneB (e:TypeId) (sz c:Nat) (r:Row):Prop where
 has:Has Pg e r
 len:r.length=sz
 one:Ck.oneR r=1
 cnt:Ck.cntR r+2≤2*c
 bulk:d1i r+100000≤2*Wu c
 pos:1≤c
structure RowB (e:TypeId) (sz n:Nat) (l:List Row):Prop where
 len:l.length≤n
 has:∀r∈l,Has Pg e r
 size:∀r∈l,r.length=sz
 cnt:Ck.cnts l+l.length≤2*n
 bulk:c1h l+Wu l.length≤2*Wu n
theorem RowB.nil {e:TypeId} {sz:Nat}:RowB e sz 0 []:=⟨by simp,fun r h=>(by cases h),fun r h=>(by cases h),by simp [Ck.cnts],by simp [c1h,Wu]⟩
theorem RowB.cons {e:TypeId} {sz c n:Nat} {r:Row} {l:List Row} (h:OneB e sz c r) (k:RowB e sz n l):RowB e sz (c+n) (r::l):=by
 obtain⟨h1,h2,h3,h4,h5,h6⟩:=h
 obtain⟨k1,k2,k3,k4,k5⟩:=k
 refine⟨by simp only[List.length_cons];omega,fun x hx=>?_,fun x hx=>?_,?_,?_⟩
 ·rcases List.mem_cons.1 hx with rfl|hx
  ·exact h1
  ·exact k2 x hx
 ·rcases List.mem_cons.1 hx with rfl|hx
  ·exact h2
  ·exact k3 x hx
 ·simp only[Ck.cnts,List.length_cons,h3];omega
 ·simp only[c1h,List.length_cons,i2q];rw[v1w];omega
theorem RowB.rows {te e:TypeId} {sz n:Nat} {l:List Row} (k:RowB e sz n l) (hu:Pg.underlying te=some (.slice e)) (hc:Pg.cellsOf e=sz) (hn:n≤1000000):Has Pg te [.rows sz l]:=
 m1r hu hc (Nat.le_trans (Nat.le_trans k.len hn) (by decide)) k.has k.size
theorem tyB (t:Ty) (h:t.Ok):OneB c1g 4 t.cnt t.row:=by
 have h1:=n1q t
 have h2:d1i t.row≤Wu t.cnt:=n1r t h
 have h3:=x1k (show 1≤t.cnt by omega)
 rw[v1x] at h3
 exact⟨r1P t h,e2g t,by cases t<;>rfl,by omega,by omega,by omega⟩
theorem patB (t:Pat) (h:t.Ok):OneB c1D 5 t.cnt t.row:=by
 have h1:=o1B t
 have h2:d1i t.row≤Wu t.cnt:=o1C t h
 have h3:=x1k (show 1≤t.cnt by omega)
 rw[v1x] at h3
 exact⟨t1B t h,x1r t,x1s t,by omega,by omega,by omega⟩
theorem optB (t:Option Ty) (h:e2O t):RowB c1g 4 (n1D t) (t.toList.map Ty.row):=by
 cases t with
 |none=>exact RowB.nil
 |some t=>exact RowB.cons (n:=0) (tyB t h) RowB.nil
theorem expB {k o v:Int} {p:List T} {ps ks ds ts:List Row} {n1 n2 n3 n4 c:Nat} (hk:0≤k∧k<9223372036854775808) (ho:0≤o∧o<9223372036854775808) (hv:0≤v∧v<9223372036854775808) (hp:h1m p)
  (h1:RowB c1D 5 n1 ps) (h2:RowB c1C 8 n2 ks) (h3:RowB c1w 9 n3 ds) (h4:RowB c1g 4 n4 ts) (hM:c≤1000000) (hs:n1+n2+n3+n4≤c) (hc:n1+n2+n3+n4+1≤c∨2≤ks.length):OneB c1C 8 c (expR k o v p ps ks ds ts):=by
 have q1:=h1.cnt
 have q2:=h2.cnt
 have q3:=h3.cnt
 have q4:=h4.cnt
 have b1:=h1.bulk
 have b2:=h2.bulk
 have b3:=h3.bulk
 have b4:=h4.bulk
 have hb:=k1m hp.2
 have hp1:=hp.1
 refine⟨k1C Ck.k2e (.cons (a:=[ci k]) (n1p hk) (.cons (a:=[ci o]) (n1p ho) (.cons (a:=[ci v]) (v1B hv) (.cons (a:=[cp p]) (t1x hp) (.cons (a:=[.rows 5 ps]) (h1.rows Ck.s1W Ck.f2N (by omega)) (.cons (a:=[.rows 8 ks]) (h2.rows Ck.s1X Ck.f2O (by omega)) (.cons (a:=[.rows 9 ds]) (h3.rows Ck.w1X Ck.i2m (by omega)) (.cons (a:=[.rows 4 ts]) (h4.rows Ck.m1q Ck.c_Ty (by omega)) .nil)))))))),rfl,rfl,?_,?_,by have:=h2.len;omega⟩
 ·simp only[expR,cp]
  rw[Ck.k1A]
  have:=h2.len
  omega
 ·simp only[expR,cp,d1i,CT.bulk]
  have w1:=x1k hs
  simp only[v1w] at w1
  rcases hc with hc|hc
  ·have w2:=x1k hc
   simp only[v1w,v1x] at w2
   omega
  ·have w2:200000≤Wu ks.length:=x1k hc
   omega
theorem decB {k a:Int} {n:T} {p:List T} {ts es:List Row} {n1 n2 c:Nat} (hk:0≤k∧k<9223372036854775808) (ha:0≤a∧a<9223372036854775808) (hn:f1h n) (hp:∀w∈p,f1h w)
  (h1:RowB c1g 4 n1 ts) (h2:RowB c1C 8 n2 es) (hM:c≤1000000) (hc:p.length+n1+n2+1≤c):OneB c1w 9 c (decR k a n p ts es):=by
 have q1:=h1.cnt
 have q2:=h2.cnt
 have b1:=h1.bulk
 have b2:=h2.bulk
 have hb:=k1m hp
 have hn':n.length≤4096:=hn
 have hpr:Has Pg y_s_string [cp p]:=m1r Ck.f1r Ck.i1c (by simp only[List.length_map];exact Nat.le_trans (show p.length≤1000000 by omega) (by decide)) (fun r hr=>by
  obtain⟨t,ht,rfl⟩:=List.mem_map.1 hr
  exact q1y (hp t ht)) (fun r hr=>by
  obtain⟨t,ht,rfl⟩:=List.mem_map.1 hr
  rfl)
 refine⟨k1C Ck.k2f (.cons (a:=[ci k]) (n1p hk) (.cons (a:=[ci a]) (n1p ha) (.cons (a:=[cs n]) (q1y hn) (.cons (a:=[cp p]) hpr (.cons (a:=[.rows 4 ts]) (h1.rows Ck.m1q Ck.c_Ty (by omega)) (.cons (a:=[.rows 8 es]) (h2.rows Ck.s1X Ck.f2O (by omega)) (.cons (a:=[.rows 2 []]) (RowB.nil.rows Ck.w1W Ck.i2l (by omega)) (.cons (a:=[.rows 5 []]) (RowB.nil.rows Ck.w1Y Ck.i2n (by omega)) (.cons (a:=[.rows 5 []]) (RowB.nil.rows Ck.q1t Ck.d2K (by omega)) .nil))))))))),rfl,rfl,?_,?_,by omega⟩
 ·simp only[decR,cp]
  rw[Ck.m1m]
  simp only[Ck.cnts]
  omega
 ·simp only[decR,cp,d1i,CT.bulk,c1h,bsz]
  have w2:=x1k hc
  simp only[v1w,v1x] at w2
  have w3:5000*p.length≤Wu p.length:=Nat.mul_le_mul_right _ (by decide)
  omega
mutual
theorem e1C:∀x:Exp,x.Ok→x.cnt≤1000000→OneB c1C 8 x.cnt x.row
 | .int v,h,hc=>expB (by decide) (by decide) (by have h:v<9223372036854775808:=h;omega) f1F .nil .nil .nil .nil hc (by simp [Exp.cnt]) (.inl (by simp [Exp.cnt]))
 | .tru,h,hc=>expB (by decide) (by decide) (by decide) f1F .nil .nil .nil .nil hc (by simp [Exp.cnt]) (.inl (by simp [Exp.cnt]))
 | .fls,h,hc=>expB (by decide) (by decide) (by decide) f1F .nil .nil .nil .nil hc (by simp [Exp.cnt]) (.inl (by simp [Exp.cnt]))
 | .unit,h,hc=>expB (by decide) (by decide) (by decide) f1F .nil .nil .nil .nil hc (by simp [Exp.cnt]) (.inl (by simp [Exp.cnt]))
 | .var p,h,hc=>expB (by decide) (by decide) (by decide) h .nil .nil .nil .nil hc (by simp [Exp.cnt]) (.inl (by simp [Exp.cnt]))
 | .con p,h,hc=>expB (by decide) (by decide) (by decide) h .nil .nil .nil .nil hc (by simp [Exp.cnt]) (.inl (by simp [Exp.cnt]))
 | .fn p x,h,hc=>by
  simp only[Exp.cnt] at hc⊢
  exact expB (by decide) (by decide) (by decide) f1F (.cons (n:=0) (patB p h.1) .nil) (.cons (n:=0) (e1C x h.2 (by omega)) .nil) .nil .nil hc (by omega) (.inl (by omega))
 | .app f x,h,hc=>by
  simp only[Exp.cnt] at hc⊢
  exact expB (by decide) (by decide) (by decide) f1F .nil (.cons (e1C f h.1 (by omega)) (.cons (n:=0) (e1C x h.2 (by omega)) .nil)) .nil .nil hc (by omega) (.inr (by simp))
 | .pair f x,h,hc=>by
  simp only[Exp.cnt] at hc⊢
  exact expB (by decide) (by decide) (by decide) f1F .nil (.cons (e1C f h.1 (by omega)) (.cons (n:=0) (e1C x h.2 (by omega)) .nil)) .nil .nil hc (by omega) (.inl (by omega))
 | .lets l x,h,hc=>by
  simp only[Exp.cnt] at hc⊢
  exact expB (by decide) (by decide) (by decide) f1F .nil (.cons (n:=0) (e1C x h.2 (by omega)) .nil) (y1t l h.1 (by omega)) .nil hc (by omega) (.inl (by omega))
 | .ite c f x,h,hc=>by
  simp only[Exp.cnt] at hc⊢
  exact expB (by decide) (by decide) (by decide) f1F .nil (.cons (e1C c h.1 (by omega)) (.cons (e1C f h.2.1 (by omega)) (.cons (n:=0) (e1C x h.2.2 (by omega)) .nil))) .nil .nil hc (by omega) (.inl (by omega))
 | .cases x l,h,hc=>by
  simp only[Exp.cnt] at hc⊢
  obtain⟨a,b,hab,h1,h2⟩:=v1y l h.2 (by omega)
  exact expB (by decide) (by decide) (by decide) f1F h1 (.cons (e1C x h.1 (by omega)) h2) .nil .nil hc (by omega) (.inl (by omega))
 | .bin o f x,h,hc=>by
  simp only[Exp.cnt] at hc⊢
  exact expB (by decide) (by have:=h.1;omega) (by decide) f1F .nil (.cons (e1C f h.2.1 (by omega)) (.cons (n:=0) (e1C x h.2.2 (by omega)) .nil)) .nil .nil hc (by omega) (.inl (by omega))
 | .ann x t,h,hc=>by
  simp only[Exp.cnt] at hc⊢
  exact expB (by decide) (by decide) (by decide) f1F .nil (.cons (n:=0) (e1C x h.1 (by omega)) .nil) .nil (.cons (n:=0) (tyB t h.2) .nil) hc (by omega) (.inl (by omega))
theorem i2r:∀d:Dec,d.Ok→d.cnt≤1000000→OneB c1w 9 d.cnt d.row
 | .val a n t x,h,hc=>by
  simp only[Dec.cnt] at hc⊢
  exact decB (p:=[]) (by decide) (by have:=h.1;omega) h.2.1 (fun w hw=>by cases hw) (optB t h.2.2.1) (.cons (n:=0) (e1C x h.2.2.2 (by omega)) .nil) hc (by simp only[List.length_nil];omega)
 | .func a n ps t x,h,hc=>by
  simp only[Dec.cnt] at hc⊢
  exact decB (by decide) (by have:=h.1;omega) h.2.1 h.2.2.1 (optB t h.2.2.2.1) (.cons (n:=0) (e1C x h.2.2.2.2 (by omega)) .nil) hc (by omega)
theorem y1t:∀l:List Dec,k1M l→d1C l≤1000000→RowB c1w 9 (d1C l) (k1F l)
 |[],_,_=>.nil
 |d::l,h,hc=>by
  simp only[d1C] at hc⊢
  exact .cons (i2r d h.1 (by omega)) (y1t l h.2 (by omega))
theorem v1y:∀l:List (Pat×Exp),i1i l→c1J l≤1000000→∃a b,a+b=c1J l∧RowB c1D 5 a (l.map fun b=>b.1.row)∧RowB c1C 8 b (g1w l)
 |[],_,_=>⟨0,0,rfl,.nil,.nil⟩
 |(p,x)::l,h,hc=>by
  simp only[c1J] at hc⊢
  obtain⟨a,b,hab,h1,h2⟩:=v1y l h.2.2 (by omega)
  exact⟨p.cnt+a,x.cnt+b,by omega,.cons (patB p h.1) h1,.cons (e1C x h.2.1 (by omega)) h2⟩
end
def Xdep (x:Exp):Nat:=Ck.wms 0 0 [x.row]
end Go.Proofs
end

section
/- PARSE, plain: the kids of expressions and declarations; what places change in them: nothing but places -/
set_option linter.unusedVariables false
set_option linter.unusedSimpArgs false
namespace Go.Pa
open Go Go.Eng
open Go.Lx (T Tok)
def c1k:Exp→List Exp
 | .fn _ x=>[x]
 | .app f x=>[f,x]
 | .pair a b=>[a,b]
 | .lets _ x=>[x]
 | .ite c a b=>[c,a,b]
 | .cases x l=>x::l.map (·.2)
 | .bin _ a b=>[a,b]
 | .ann x _=>[x]
 |_=>[]
def c1p:Exp→List Pat
 | .fn p _=>[p]
 | .cases _ l=>l.map (·.1)
 |_=>[]
def c1z:Exp→List Dec
 | .lets l _=>l
 |_=>[]
def d1D:Exp→List Ty
 | .ann _ t=>[t]
 |_=>[]
def k1N:Dec→Exp
 | .val _ _ _ x=>x
 | .func _ _ _ _ x=>x
def h1P:Dec→List Ty
 | .val _ _ t _=>t.toList
 | .func _ _ _ t _=>t.toList
theorem u1D:∀l:List Dec,k1F l=l.map Dec.row
 |[]=>rfl
 |d::l=>by rw[k1F,u1D l];rfl
theorem r1y:∀l:List (Pat×Exp),g1w l=l.map fun b=>b.2.row
 |[]=>rfl
 |(p,x)::l=>by rw[g1w,r1y l];rfl
theorem c2c:∀l:List Dec,bDs l=l.map bD
 |[]=>rfl
 |d::l=>by rw[bDs,c2c l];rfl
theorem w1m:∀l:List (Pat×Exp),bCs l=l.map fun b=>(b.1,bE b.2)
 |[]=>rfl
 |(p,x)::l=>by rw[bCs,w1m l];rfl
theorem g2s (x:Exp):c1k (bE x)=(c1k x).map bE:=by
 cases x with
 |cases x l=>simp only[bE,c1k,w1m,List.map_cons,List.map_map];rfl
 |_=>simp only[bE,c1k,List.map_cons,List.map_nil]
theorem g2t (x:Exp):c1p (bE x)=c1p x:=by
 cases x with
 |cases x l=>simp only[bE,c1p,w1m,List.map_map];rfl
 |_=>simp only[bE,c1p]
theorem g2u (x:Exp):c1z (bE x)=(c1z x).map bD:=by
 cases x with
 |lets l x=>simp only[bE,c1z,c2c]
 |_=>simp only[bE,c1z,List.map_nil]
theorem i2N (x:Exp):d1D (bE x)=d1D x:=by cases x<;>simp only[bE,d1D]
theorem g2v (d:Dec):k1N (bD d)=bE (k1N d):=by cases d<;>simp only[bD,k1N]
theorem g2w (d:Dec):h1P (bD d)=h1P d:=by cases d<;>simp only[bD,h1P]
theorem m1Q:∀x:Exp,1≤x.cnt
 | .app f x=>by have:=m1Q f;simp only[Exp.cnt];omega
 | .int _=>by simp only[Exp.cnt];omega
 | .tru=>by simp only[Exp.cnt];omega
 | .fls=>by simp only[Exp.cnt];omega
 | .unit=>by simp only[Exp.cnt];omega
 | .var _=>by simp only[Exp.cnt];omega
 | .con _=>by simp only[Exp.cnt];omega
 | .fn _ _=>by simp only[Exp.cnt];omega
 | .pair _ _=>by simp only[Exp.cnt];omega
 | .lets _ _=>by simp only[Exp.cnt];omega
 | .ite _ _ _=>by simp only[Exp.cnt];omega
 | .cases _ _=>by simp only[Exp.cnt];omega
 | .bin _ _ _=>by simp only[Exp.cnt];omega
 | .ann _ _=>by simp only[Exp.cnt];omega
theorem h2i (d:Dec):1≤d.cnt:=by cases d<;>(simp only[Dec.cnt];omega)
theorem x1M {d:Dec}:∀{l:List Dec},d∈l→k1M l→d.Ok∧d.cnt≤d1C l
 |e::l,h,ho=>by
  simp only[d1C]
  rcases List.mem_cons.1 h with rfl|h
  ·exact⟨ho.1,by omega⟩
  ·have:=x1M h ho.2
   exact⟨this.1,by omega⟩
theorem x1N:∀l:List Dec,l.length≤d1C l
 |[]=>Nat.le_refl _
 |d::l=>by have:=x1N l;have:=h2i d;simp only[List.length_cons,d1C];omega
theorem p1B {b:Pat×Exp}:∀{l:List (Pat×Exp)},b∈l→i1i l→b.1.Ok∧b.2.Ok∧b.1.cnt+b.2.cnt≤c1J l
 |(p,x)::l,h,ho=>by
  simp only[c1J]
  rcases List.mem_cons.1 h with rfl|h
  ·exact⟨ho.1,ho.2.1,by dsimp only;omega⟩
  ·have:=p1B h ho.2.2
   exact⟨this.1,this.2.1,by omega⟩
theorem u1E:∀l:List (Pat×Exp),l.length≤c1J l
 |[]=>Nat.le_refl _
 |(p,x)::l=>by have:=u1E l;have:=m1Q x;simp only[List.length_cons,c1J];omega
structure KidsOk (x:Exp):Prop where
 kids:∀k∈c1k x,k.Ok∧k.cnt<x.cnt
 kidsL:(c1k x).length≤x.cnt+2
 pats:∀k∈c1p x,k.Ok∧k.cnt≤x.cnt
 patsL:(c1p x).length≤x.cnt
 decs:∀k∈c1z x,k.Ok∧k.cnt<x.cnt
 decsL:(c1z x).length≤x.cnt
 tys:∀k∈d1D x,k.Ok∧k.cnt≤x.cnt
 tysL:(d1D x).length≤x.cnt
theorem x1O {x:Exp} (h:x.Ok):KidsOk x:=by
 have hp:=m1Q x
 cases x with
 |fn p x=>
  simp only[Exp.cnt] at hp
  exact⟨fun k hk=>by simp only[c1k,List.mem_singleton] at hk;subst hk;exact⟨h.2,by simp only[Exp.cnt];omega⟩,by simp [c1k],fun k hk=>by simp only[c1p,List.mem_singleton] at hk;subst hk;exact⟨h.1,by simp only[Exp.cnt];omega⟩,by simp only[c1p,Exp.cnt,List.length_cons,List.length_nil];omega,fun k hk=>by simp [c1z] at hk,by simp [c1z],fun k hk=>by simp [d1D] at hk,by simp [d1D]⟩
 |app f x=>
  have q1:=m1Q f
  have q2:=m1Q x
  exact⟨fun k hk=>by
   simp only[c1k,List.mem_cons,List.not_mem_nil,or_false] at hk
   rcases hk with rfl|rfl
   ·exact⟨h.1,by simp only[Exp.cnt];omega⟩
   ·exact⟨h.2,by simp only[Exp.cnt];omega⟩,by simp [c1k],fun k hk=>by simp [c1p] at hk,by simp [c1p],fun k hk=>by simp [c1z] at hk,by simp [c1z],fun k hk=>by simp [d1D] at hk,by simp [d1D]⟩
 |pair f x=>
  exact⟨fun k hk=>by
   simp only[c1k,List.mem_cons,List.not_mem_nil,or_false] at hk
   rcases hk with rfl|rfl
   ·exact⟨h.1,by simp only[Exp.cnt];omega⟩
   ·exact⟨h.2,by simp only[Exp.cnt];omega⟩,by simp [c1k],fun k hk=>by simp [c1p] at hk,by simp [c1p],fun k hk=>by simp [c1z] at hk,by simp [c1z],fun k hk=>by simp [d1D] at hk,by simp [d1D]⟩
 |bin o f x=>
  exact⟨fun k hk=>by
   simp only[c1k,List.mem_cons,List.not_mem_nil,or_false] at hk
   rcases hk with rfl|rfl
   ·exact⟨h.2.1,by simp only[Exp.cnt];omega⟩
   ·exact⟨h.2.2,by simp only[Exp.cnt];omega⟩,by simp [c1k],fun k hk=>by simp [c1p] at hk,by simp [c1p],fun k hk=>by simp [c1z] at hk,by simp [c1z],fun k hk=>by simp [d1D] at hk,by simp [d1D]⟩
 |ite c f x=>
  exact⟨fun k hk=>by
   simp only[c1k,List.mem_cons,List.not_mem_nil,or_false] at hk
   rcases hk with rfl|rfl|rfl
   ·exact⟨h.1,by simp only[Exp.cnt];omega⟩
   ·exact⟨h.2.1,by simp only[Exp.cnt];omega⟩
   ·exact⟨h.2.2,by simp only[Exp.cnt];omega⟩,by simp only[c1k,List.length_cons,List.length_nil];omega,fun k hk=>by simp [c1p] at hk,by simp [c1p],fun k hk=>by simp [c1z] at hk,by simp [c1z],fun k hk=>by simp [d1D] at hk,by simp [d1D]⟩
 |lets l x=>
  have ql:=x1N l
  exact⟨fun k hk=>by simp only[c1k,List.mem_singleton] at hk;subst hk;exact⟨h.2,by simp only[Exp.cnt];omega⟩,by simp [c1k],fun k hk=>by simp [c1p] at hk,by simp [c1p],fun k hk=>by
   have:=x1M (l:=l) hk h.1
   exact⟨this.1,by simp only[Exp.cnt];omega⟩,by simp only[c1z,Exp.cnt];omega,fun k hk=>by simp [d1D] at hk,by simp [d1D]⟩
 |cases x l=>
  have ql:=u1E l
  exact⟨fun k hk=>by
   simp only[c1k,List.mem_cons,List.mem_map] at hk
   rcases hk with rfl|⟨b,hb,rfl⟩
   ·exact⟨h.1,by simp only[Exp.cnt];omega⟩
   ·have:=p1B hb h.2
    exact⟨this.2.1,by simp only[Exp.cnt];omega⟩,by simp only[c1k,List.length_cons,List.length_map,Exp.cnt];omega,fun k hk=>by
   simp only[c1p,List.mem_map] at hk
   obtain⟨b,hb,rfl⟩:=hk
   have:=p1B hb h.2
   exact⟨this.1,by simp only[Exp.cnt];omega⟩,by simp only[c1p,List.length_map,Exp.cnt];omega,fun k hk=>by simp [c1z] at hk,by simp [c1z],fun k hk=>by simp [d1D] at hk,by simp [d1D]⟩
 |ann x t=>
  simp only[Exp.cnt] at hp
  exact⟨fun k hk=>by simp only[c1k,List.mem_singleton] at hk;subst hk;exact⟨h.1,by simp only[Exp.cnt];omega⟩,by simp [c1k],fun k hk=>by simp [c1p] at hk,by simp [c1p],fun k hk=>by simp [c1z] at hk,by simp [c1z],fun k hk=>by simp only[d1D,List.mem_singleton] at hk;subst hk;exact⟨h.2,by simp only[Exp.cnt];omega⟩,by simp only[d1D,Exp.cnt,List.length_cons,List.length_nil];omega⟩
 |_=>exact⟨fun k hk=>by simp [c1k] at hk,by simp [c1k],fun k hk=>by simp [c1p] at hk,by simp [c1p],fun k hk=>by simp [c1z] at hk,by simp [c1z],fun k hk=>by simp [d1D] at hk,by simp [d1D]⟩
theorem e2P {d:Dec} (h:d.Ok):(k1N d).Ok∧(k1N d).cnt<d.cnt∧(∀t∈h1P d,t.Ok∧t.cnt≤d.cnt)∧(h1P d).length≤1:=by
 cases d with
 |val a n t x=>
  refine⟨h.2.2.2,by simp only[k1N,Dec.cnt];omega,fun k hk=>?_,?_⟩
  ·cases t with
   |none=>simp [h1P] at hk
   |some t=>simp [h1P] at hk;subst hk;exact⟨h.2.2.1,by simp only[Dec.cnt,n1D];omega⟩
  ·cases t<;>simp [h1P]
 |func a n ps t x=>
  refine⟨h.2.2.2.2,by simp only[k1N,Dec.cnt];omega,fun k hk=>?_,?_⟩
  ·cases t with
   |none=>simp [h1P] at hk
   |some t=>simp [h1P] at hk;subst hk;exact⟨h.2.2.2.1,by simp only[Dec.cnt,n1D];omega⟩
  ·cases t<;>simp [h1P]
end Go.Pa
end

section
/- TREES: words for what recurs in printed trees (by ktz.py) -/
set_option linter.unusedVariables false
open Go Go.Eng
open IntKind (wrap)
namespace Go.Proofs
abbrev zpR6 (K:List (List AV)→List (List AV)→List (List AV)→List (List AV)→List (List AV)→List (List AV)→KT):KT:=.exR fun v0=>.exR fun v1=>.exR fun v2=>.exR fun v3=>.exR fun v4=>.exR fun v5=>K v0 v1 v2 v3 v4 v5
abbrev zpR5 (K:List (List AV)→List (List AV)→List (List AV)→List (List AV)→List (List AV)→KT):KT:=.exR fun v0=>.exR fun v1=>.exR fun v2=>.exR fun v3=>.exR fun v4=>K v0 v1 v2 v3 v4
abbrev zpI3 (K:Int→Int→Int→KT):KT:=.exI fun v0=>.exI fun v1=>.exI fun v2=>K v0 v1 v2
abbrev zpI2 (K:Int→Int→KT):KT:=.exI fun v0=>.exI fun v1=>K v0 v1
abbrev zpN (n:Nat) (l:List (List AV)):AV:=.slice n l .no
abbrev zpP:AV:=.ptr 0 0
abbrev zpR (v:AV) (h:Heap):CRes:=⟨.ret v,.none,h⟩
abbrev zpQ (v:AV) (h:Heap):CRes:=⟨.panic v,.none,h⟩
abbrev zpS (n:Nat) (t:List (Nat×AV)) (l:List (Nat×Nat×List AV)) (h:Heap) (k:Nat):St:=⟨tm2 n t,lm2 n l,⟨h,[],.none,k⟩⟩
abbrev zp1 (x0 x1 x2:Int) (x3 x4 x5 x6 x7:List (List AV)):List AV:=[vI x0,vI x1,vI x2,zpN 1 x3,zpN 5 x4,zpN 8 x5,zpN 9 x6,zpN 4 x7]
abbrev zp3 (g:FuncId) (a:List AV) (h:Heap) (K:Bool→KT):KT:=.exB fun v0=>.call g a .none h ⟨.ret (vB v0),.none,h⟩ (K v0)
abbrev zp4 (x0 x1:Int) (x2:ByteArray) (x3 x4 x5 x6 x7 x8:List (List AV)):List AV:=[vI x0,vI x1,vS x2,zpN 1 x3,zpN 4 x4,zpN 8 x5,zpN 2 x6,zpN 5 x7,zpN 5 x8]
end Go.Proofs
end

section
/- TREES, printed by kt.py out of y20a.txt -/
open Go Go.Eng
open IntKind (wrap)
namespace Go.Proofs
set_option linter.unusedVariables false
set_option maxRecDepth 100000
@[irreducible] noncomputable def j1p (p q:List (List AV)):KT:=(kt6 a1F [.slice 8 p .no,.slice 8 q .no] []).F
@[irreducible] noncomputable def h1V (p q:List (List AV)):KT:=(kt6 a1F [.slice 8 p .full,.slice 8 q .full] []).F
@[irreducible] noncomputable def j1q (p q:List (List AV)):KT:=(kt6 b1D [.slice 9 p .no,.slice 9 q .no] []).F
theorem m1j (k o v p a b c d):(ktc6 b1H [AV.agg [vI k,vI o,vI v,AV.slice 1 p Own.no,AV.slice 5 a Own.no,AV.slice 8 b Own.no,AV.slice 9 c Own.no,AV.slice 4 d Own.no]] []).prune (PH.of 56339622453)=
 zpI3 fun i i1 i2=>.call b1l [zpP,.slice 8 [zp1 k o v p a b c d] .full] .none [[vI 0,vI 0,vI 0]] (zpR zpP [[vI i,vI i1,vI i2]]) (.branch (decide (i2>100)) (.ret (zpR (vI 4) [])) (.alt (.call b1e [.agg (zp1 k o v p a b c d)] .none [[vI i,vI i1,vI i2],[vI 0]] (zpR (.tuple []) [[vI i,vI i1,vI i2],[vI 0]]) (.ret (zpR (vI 0) []))) (.exI fun i3=>.call b1e [.agg (zp1 k o v p a b c d)] .none [[vI i,vI i1,vI i2],[vI 0]] (zpQ (.iface a1a (vI i3)) [[vI i,vI i1,vI i2],[vI 0]]) (.ret (zpR (vI i3) []))))):=by kernel_rfl
theorem s1K (k o v p a b c d k2 o2 v2 p2 a2 b2 c2 d2):(kt6 b1Q [AV.agg [vI k,vI o,vI v,AV.slice 1 p Own.no,AV.slice 5 a Own.no,AV.slice 8 b Own.no,AV.slice 9 c Own.no,AV.slice 4 d Own.no],AV.agg [vI k2,vI o2,vI v2,AV.slice 1 p2 Own.no,AV.slice 5 a2 Own.no,AV.slice 8 b2 Own.no,AV.slice 9 c2 Own.no,AV.slice 4 d2 Own.no]] []).prune (PH.of 6)=
 zp3 a1F [.slice 8 [zp1 k o v p a b c d] .full,.slice 8 [zp1 k2 o2 v2 p2 a2 b2 c2 d2] .full] [] (fun b1=>.ret (zpR (vB b1) [])):=by kernel_rfl
@[irreducible] noncomputable def l1o (p q:List (List AV)):KT:=kt6 a1F [AV.slice 8 p Own.no,AV.slice 8 q Own.no] []
theorem q1T (p q):(kt6 a1F [AV.slice 8 p Own.no,AV.slice 8 q Own.no] []).prune (PH.of 53)=
 .branch ((↑p.length:Int)!=(↑q.length:Int)) (.ret (zpR (vB false) [])) ((l1o p q).F):=by kernel_rfl
@[irreducible] noncomputable def k1h (p q:List (List AV)):KT:=kt6 a1F [AV.slice 8 p Own.full,AV.slice 8 q Own.full] []
theorem q1k (p q):(kt6 a1F [AV.slice 8 p Own.full,AV.slice 8 q Own.full] []).prune (PH.of 53)=
 .branch ((↑p.length:Int)!=(↑q.length:Int)) (.ret (zpR (vB false) [])) ((k1h p q).F):=by kernel_rfl
@[irreducible] noncomputable def l1p (p q:List (List AV)):KT:=kt6 b1D [AV.slice 9 p Own.no,AV.slice 9 q Own.no] []
theorem q1U (p q):(kt6 b1D [AV.slice 9 p Own.no,AV.slice 9 q Own.no] []).prune (PH.of 53)=
 .branch ((↑p.length:Int)!=(↑q.length:Int)) (.ret (zpR (vB false) [])) ((l1p p q).F):=by kernel_rfl
@[irreducible] noncomputable def n1P (p q:List (List AV)) (i:Nat):KT:=KT.round Pg cfg0 rs0 kc6 (j1p p q) (zpS 84 [(0,zpN 8 p),(1,zpN 8 q),(5,vI (↑i:Int))] [] [] 0)
theorem q1l (p q) (i:Nat):(KT.round Pg cfg0 rs0 kc6 (j1p p q) (zpS 84 [(0,zpN 8 p),(1,zpN 8 q),(5,vI (↑i:Int))] [] [] 0)).prune (PH.of 26445298749869)=
 .branch (decide ((↑i:Int)<(↑p.length:Int))) (zpI3 fun i1 i2 i3=>zpR5 fun l l1 l2 l3 l4=>.row p (↑i:Int) (zp1 i1 i2 i3 l l1 l2 l3 l4) (zpI3 fun i4 i5 i6=>zpR5 fun l5 l6 l7 l8 l9=>.row q (↑i:Int) (zp1 i4 i5 i6 l5 l6 l7 l8 l9) (.stage (.branch (i1 !=i4) (.out (.out (.ret (zpR (vB false) [])))) (.branch (i2 !=i5) (.out (.out (.ret (zpR (vB false) [])))) (.branch (i3 !=i6) (.out (.out (.ret (zpR (vB false) [])))) (zp3 a1U [zpN 1 l,zpN 1 l5] [] (fun b=>.branch (!b) (.out (.out (.ret (zpR (vB false) [])))) (.done (zpS 84 [(0,zpN 8 p),(1,zpN 8 q),(5,vI (↑i:Int)),(6,.lp 6 0 0),(7,.lp 7 0 0)] [(6,0,zp1 i1 i2 i3 l l1 l2 l3 l4),(7,0,zp1 i4 i5 i6 l5 l6 l7 l8 l9)] [] 0))))))) ((((((((((((((((((n1P p q i).T.I i1).I i2).I i3).R l).R l1).R l2).R l3).R l4).T.I i4).I i5).I i6).R l5).R l6).R l7).R l8).R l9).T.K)))) (.out (.ret (zpR (vB true) []))):=by kernel_rfl
theorem m1Y (p q) (i:Nat) (i1 i2 i3 l l1 l2 l3 l4 i4 i5 i6 l5 l6 l7 l8 l9):((((((((((((((((((n1P p q i).T.I i1).I i2).I i3).R l).R l1).R l2).R l3).R l4).T.I i4).I i5).I i6).R l5).R l6).R l7).R l8).R l9).T.K (zpS 84 [(0,zpN 8 p),(1,zpN 8 q),(5,vI (↑i:Int)),(6,.lp 6 0 0),(7,.lp 7 0 0)] [(6,0,zp1 i1 i2 i3 l l1 l2 l3 l4),(7,0,zp1 i4 i5 i6 l5 l6 l7 l8 l9)] [] 0)).prune (PH.of 7127460405)=
 zp3 b1a [zpN 5 l1,zpN 5 l6] [] (fun b=>.branch (!b) (.out (.ret (zpR (vB false) []))) (zp3 a1F [zpN 8 l2,zpN 8 l7] [] (fun b1=>.branch (!b1) (.out (.ret (zpR (vB false) []))) (zp3 b1D [zpN 9 l3,zpN 9 l8] [] (fun b2=>.branch (!b2) (.out (.ret (zpR (vB false) []))) (zp3 a1S [zpN 4 l4,zpN 4 l9] [] (fun b3=>.branch (!b3) (.out (.ret (zpR (vB false) []))) (.done (zpS 84 [(0,zpN 8 p),(1,zpN 8 q),(5,vI (wrap .i64 ((↑i:Int)+1)))] [] [] 0))))))))):=by kernel_rfl
@[irreducible] noncomputable def m1k (p q:List (List AV)) (i:Nat):KT:=KT.round Pg cfg0 rs0 kc6 (h1V p q) (zpS 84 [(0,.slice 8 p .full),(1,.slice 8 q .full),(5,vI (↑i:Int))] [] [] 0)
theorem o1b (p q) (i:Nat):(KT.round Pg cfg0 rs0 kc6 (h1V p q) (zpS 84 [(0,.slice 8 p .full),(1,.slice 8 q .full),(5,vI (↑i:Int))] [] [] 0)).prune (PH.of 26445298749869)=
 .branch (decide ((↑i:Int)<(↑p.length:Int))) (zpI3 fun i1 i2 i3=>zpR5 fun l l1 l2 l3 l4=>.row p (↑i:Int) (zp1 i1 i2 i3 l l1 l2 l3 l4) (zpI3 fun i4 i5 i6=>zpR5 fun l5 l6 l7 l8 l9=>.row q (↑i:Int) (zp1 i4 i5 i6 l5 l6 l7 l8 l9) (.stage (.branch (i1 !=i4) (.out (.out (.ret (zpR (vB false) [])))) (.branch (i2 !=i5) (.out (.out (.ret (zpR (vB false) [])))) (.branch (i3 !=i6) (.out (.out (.ret (zpR (vB false) [])))) (zp3 a1U [zpN 1 l,zpN 1 l5] [] (fun b=>.branch (!b) (.out (.out (.ret (zpR (vB false) [])))) (.done (zpS 84 [(0,.slice 8 p .full),(1,.slice 8 q .full),(5,vI (↑i:Int)),(6,.lp 6 0 0),(7,.lp 7 0 0)] [(6,0,zp1 i1 i2 i3 l l1 l2 l3 l4),(7,0,zp1 i4 i5 i6 l5 l6 l7 l8 l9)] [] 0))))))) ((((((((((((((((((m1k p q i).T.I i1).I i2).I i3).R l).R l1).R l2).R l3).R l4).T.I i4).I i5).I i6).R l5).R l6).R l7).R l8).R l9).T.K)))) (.out (.ret (zpR (vB true) []))):=by kernel_rfl
theorem m1l (p q) (i:Nat) (i1 i2 i3 l l1 l2 l3 l4 i4 i5 i6 l5 l6 l7 l8 l9):((((((((((((((((((m1k p q i).T.I i1).I i2).I i3).R l).R l1).R l2).R l3).R l4).T.I i4).I i5).I i6).R l5).R l6).R l7).R l8).R l9).T.K (zpS 84 [(0,.slice 8 p .full),(1,.slice 8 q .full),(5,vI (↑i:Int)),(6,.lp 6 0 0),(7,.lp 7 0 0)] [(6,0,zp1 i1 i2 i3 l l1 l2 l3 l4),(7,0,zp1 i4 i5 i6 l5 l6 l7 l8 l9)] [] 0)).prune (PH.of 7127460405)=
 zp3 b1a [zpN 5 l1,zpN 5 l6] [] (fun b=>.branch (!b) (.out (.ret (zpR (vB false) []))) (zp3 a1F [zpN 8 l2,zpN 8 l7] [] (fun b1=>.branch (!b1) (.out (.ret (zpR (vB false) []))) (zp3 b1D [zpN 9 l3,zpN 9 l8] [] (fun b2=>.branch (!b2) (.out (.ret (zpR (vB false) []))) (zp3 a1S [zpN 4 l4,zpN 4 l9] [] (fun b3=>.branch (!b3) (.out (.ret (zpR (vB false) []))) (.done (zpS 84 [(0,.slice 8 p .full),(1,.slice 8 q .full),(5,vI (wrap .i64 ((↑i:Int)+1)))] [] [] 0))))))))):=by kernel_rfl
@[irreducible] noncomputable def n1Q (p q:List (List AV)) (i:Nat):KT:=KT.round Pg cfg0 rs0 kc6 (j1q p q) (zpS 85 [(0,zpN 9 p),(1,zpN 9 q),(5,vI (↑i:Int))] [] [] 0)
theorem q1m (p q) (i:Nat):(KT.round Pg cfg0 rs0 kc6 (j1q p q) (zpS 85 [(0,zpN 9 p),(1,zpN 9 q),(5,vI (↑i:Int))] [] [] 0)).prune (PH.of 51650974125)=
 .branch (decide ((↑i:Int)<(↑p.length:Int))) (zpI2 fun i1 i2=>.exS fun s=>zpR6 fun l l1 l2 l3 l4 l5=>.row p (↑i:Int) (zp4 i1 i2 s l l1 l2 l3 l4 l5) (zpI2 fun i3 i4=>.exS fun s1=>zpR6 fun l6 l7 l8 l9 l10 l11=>.row q (↑i:Int) (zp4 i3 i4 s1 l6 l7 l8 l9 l10 l11) (.stage (.branch (i1 !=i3) (.out (.out (.ret (zpR (vB false) [])))) (.branch (!s.toList==s1.toList) (.out (.out (.ret (zpR (vB false) [])))) (zp3 a1U [zpN 1 l,zpN 1 l6] [] (fun b=>.branch (!b) (.out (.out (.ret (zpR (vB false) [])))) (.done (zpS 85 [(0,zpN 9 p),(1,zpN 9 q),(5,vI (↑i:Int)),(6,.lp 6 0 0),(7,.lp 7 0 0)] [(6,0,zp4 i1 i2 s l l1 l2 l3 l4 l5),(7,0,zp4 i3 i4 s1 l6 l7 l8 l9 l10 l11)] [] 0)))))) ((((((((((((((((((((n1Q p q i).T.I i1).I i2).S s).R l).R l1).R l2).R l3).R l4).R l5).T.I i3).I i4).S s1).R l6).R l7).R l8).R l9).R l10).R l11).T.K)))) (.out (.ret (zpR (vB true) []))):=by kernel_rfl
theorem m1Z (p q) (i:Nat) (i1 i2) (s:ByteArray) (l l1 l2 l3 l4 l5 i3 i4) (s1:ByteArray) (l6 l7 l8 l9 l10 l11):((((((((((((((((((((n1Q p q i).T.I i1).I i2).S s).R l).R l1).R l2).R l3).R l4).R l5).T.I i3).I i4).S s1).R l6).R l7).R l8).R l9).R l10).R l11).T.K (zpS 85 [(0,zpN 9 p),(1,zpN 9 q),(5,vI (↑i:Int)),(6,.lp 6 0 0),(7,.lp 7 0 0)] [(6,0,zp4 i1 i2 s l l1 l2 l3 l4 l5),(7,0,zp4 i3 i4 s1 l6 l7 l8 l9 l10 l11)] [] 0)).prune (PH.of 3649259727413)=
 zp3 a1S [zpN 4 l1,zpN 4 l7] [] (fun b=>.branch (!b) (.out (.ret (zpR (vB false) []))) (zp3 a1F [zpN 8 l2,zpN 8 l8] [] (fun b1=>.branch (!b1) (.out (.ret (zpR (vB false) []))) (zp3 d1m [zpN 2 l3,zpN 2 l9] [] (fun b2=>.branch (!b2) (.out (.ret (zpR (vB false) []))) (zp3 d1n [zpN 5 l4,zpN 5 l10] [] (fun b3=>.branch (!b3) (.out (.ret (zpR (vB false) []))) (zp3 d1o [zpN 5 l5,zpN 5 l11] [] (fun b4=>.branch (!b4) (.out (.ret (zpR (vB false) []))) (.done (zpS 85 [(0,zpN 9 p),(1,zpN 9 q),(5,vI (wrap .i64 ((↑i:Int)+1)))] [] [] 0))))))))))):=by kernel_rfl
end Go.Proofs
end

section
/- PARSE: expressions: places make no difference (sameness, depth); RightExp -/
set_option linter.unusedVariables false
set_option linter.unusedSimpArgs false
set_option maxRecDepth 100000
open Go Go.Eng Go.Pa
open Go.Lx (T Tok)
namespace Go.Proofs
abbrev f1E (l:List Exp):List (List AV):=avss (l.map Exp.row)
abbrev k1k (l:List Dec):List (List AV):=avss (l.map Dec.row)
theorem k2h (x:Exp):XKs x=(c1k x).map Exp.row:=by
 cases x with
 |cases x l=>simp only[XKs,c1k,r1y,List.map_cons,List.map_map];rfl
 |_=>simp only[XKs,c1k,List.map_cons,List.map_nil]
theorem k2i (x:Exp):XPs x=(c1p x).map Pat.row:=by
 cases x with
 |cases x l=>simp only[XPs,c1p,List.map_map];rfl
 |_=>simp only[XPs,c1p,List.map_cons,List.map_nil]
theorem k2j (x:Exp):XDs x=(c1z x).map Dec.row:=by
 cases x with
 |lets l x=>simp only[XDs,c1z,u1D]
 |_=>simp only[XDs,c1z,List.map_nil]
theorem k2k (x:Exp):XTs x=(d1D x).map Ty.row:=by cases x<;>simp only[XTs,d1D,List.map_cons,List.map_nil]
theorem g2Q (d:Dec):DTs d=(h1P d).map Ty.row:=by cases d<;>rfl
theorem g2R (d:Dec):DEs d=[k1N d].map Exp.row:=by cases d<;>rfl
theorem i2s (l:List Pat):avss (l.map Pat.row)=i1Y l:=by rw[g1Q,List.map_map];rfl
theorem g2S (l:List Ty):avss (l.map Ty.row)=n1o l:=by rw[g1Q,List.map_map];rfl
theorem xk_b (x:Exp):XK (bE x)=XK x∧XO (bE x)=XO x∧XV (bE x)=XV x∧XP (bE x)=XP x:=by cases x<;>exact⟨rfl,rfl,rfl,rfl⟩
theorem dk_b (d:Dec):DK (bD d)=DK d∧DN (bD d)=DN d∧DP (bD d)=DP d:=by cases d<;>exact⟨rfl,rfl,rfl⟩
theorem XP_ok {x:Exp} (h:x.Ok):(XP x).length≤8:=by
 cases x with
 |var p=>exact h.1
 |con p=>exact h.1
 |_=>simp [XP]
def EOk (N:Nat):Prop:=∀l l':List Exp,l.length<SM→(∀x∈l,x.Ok∧x.cnt≤N)→l.map bE=l'.map bE→evp a1F [.slice 8 (f1E l) .no,.slice 8 (f1E l') .no] .none []=some ⟨.ret (vB true),.none,[]⟩
def DOk (N:Nat):Prop:=∀l l':List Dec,l.length<SM→(∀x∈l,x.Ok∧x.cnt≤N)→l.map bD=l'.map bD→evp b1D [.slice 9 (k1k l) .no,.slice 9 (k1k l') .no] .none []=some ⟨.ret (vB true),.none,[]⟩
structure ERound (x y:Exp):Prop where
 k:XK x=XK y
 o:XO x=XO y
 v:XV x=XV y
 texts:evp a1U [.slice 1 (c1m (XP x)) .no,.slice 1 (c1m (XP y)) .no] .none []=some ⟨.ret (vB true),.none,[]⟩
 pats:evp b1a [.slice 5 (avss (XPs x)) .no,.slice 5 (avss (XPs y)) .no] .none []=some ⟨.ret (vB true),.none,[]⟩
 exps:evp a1F [.slice 8 (avss (XKs x)) .no,.slice 8 (avss (XKs y)) .no] .none []=some ⟨.ret (vB true),.none,[]⟩
 decs:evp b1D [.slice 9 (avss (XDs x)) .no,.slice 9 (avss (XDs y)) .no] .none []=some ⟨.ret (vB true),.none,[]⟩
 tys:evp a1S [.slice 4 (avss (XTs x)) .no,.slice 4 (avss (XTs y)) .no] .none []=some ⟨.ret (vB true),.none,[]⟩
theorem e2c {N:Nat} (hN:N≤1000000) (ih:∀M,M<N→EOk M∧DOk M) {x y:Exp} (ho:x.Ok) (hc:x.cnt≤N) (hb:bE x=bE y):ERound x y:=by
 have K:=x1O ho
 have hp:=m1Q x
 obtain⟨a1,a2,a3,a4⟩:=xk_b x
 obtain⟨b1,b2,b3,b4⟩:=xk_b y
 rw[hb] at a1 a2 a3 a4
 have eK:(c1k x).map bE=(c1k y).map bE:=by rw[←g2s,←g2s,hb]
 have eP:c1p x=c1p y:=by rw[←g2t x,←g2t y,hb]
 have eD:(c1z x).map bD=(c1z y).map bD:=by rw[←g2u,←g2u,hb]
 have eT:d1D x=d1D y:=by rw[←i2N x,←i2N y,hb]
 obtain⟨i1,i2⟩:=ih (N-1) (by omega)
 refine⟨by rw[←a1,b1],by rw[←a2,b2],by rw[←a3,b3],?_,?_,?_,?_,?_⟩
 ·rw[show XP x=XP y by rw[←a4,b4]]
  exact t1w (by have:=XP_ok ho;rw[show XP x=XP y by rw[←a4,b4]] at this;unfold SM;omega)
 ·rw[k2i,k2i,←eP,i2s]
  exact a2X 1000000 _ (by have:=K.patsL;unfold SM;omega) (fun t ht=>(K.pats t ht).1) (fun t ht=>by have:=(K.pats t ht).2;omega)
 ·rw[k2h,k2h]
  exact i1 _ _ (by have:=K.kidsL;unfold SM;omega) (fun t ht=>⟨(K.kids t ht).1,by have:=(K.kids t ht).2;omega⟩) eK
 ·rw[k2j,k2j]
  exact i2 _ _ (by have:=K.decsL;unfold SM;omega) (fun t ht=>⟨(K.decs t ht).1,by have:=(K.decs t ht).2;omega⟩) eD
 ·rw[k2k,k2k,←eT,g2S]
  exact v1A 1000000 _ (by have:=K.tysL;unfold SM;omega) (fun t ht=>(K.tys t ht).1) (fun t ht=>by have:=(K.tys t ht).2;omega)
theorem o1A {l:List Exp} {i:Nat} (h:i<l.length):(0:Int)≤(i:Int)∧(f1E l)[(i:Int).toNat]? =some [vI (XK l[i]),vI (XO l[i]),vI (XV l[i]),.slice 1 (c1m (XP l[i])) .no,.slice 5 (avss (XPs l[i])) .no,.slice 8 (avss (XKs l[i])) .no,.slice 9 (avss (XDs l[i])) .no,.slice 4 (avss (XTs l[i])) .no]:=
 ⟨Int.natCast_nonneg i,by rw[Int.toNat_natCast,g1E (r:=l[i].row) (by rw[List.getElem?_map,List.getElem?_eq_getElem h];rfl),b1z]⟩
theorem y1u {l:List Dec} {i:Nat} (h:i<l.length):(0:Int)≤(i:Int)∧(k1k l)[(i:Int).toNat]? =some [vI (DK l[i]),vI (DA l[i]),vS (bs (DN l[i])),.slice 1 (c1m (DP l[i])) .no,.slice 4 (avss (DTs l[i])) .no,.slice 8 (avss (DEs l[i])) .no,.slice 2 [] .no,.slice 5 [] .no,.slice 5 [] .no]:=
 ⟨Int.natCast_nonneg i,by rw[Int.toNat_natCast,g1E (r:=l[i].row) (by rw[List.getElem?_map,List.getElem?_eq_getElem h];rfl),m1U]⟩
theorem g2T {α β:Type} {f:α→β} {l l':List α} (h:l.map f=l'.map f) {i:Nat} (h1:i<l.length) (h2:i<l'.length):f l[i]=f l'[i]:=by
 have:=congrArg (fun m=>m[i]?) h
 simp only[List.getElem?_map,List.getElem?_eq_getElem h1,List.getElem?_eq_getElem h2,Option.map_some,Option.some.injEq] at this
 exact this
theorem e2d {α β:Type} {f:α→β} {l l':List α} (h:l.map f=l'.map f):l'.length=l.length:=by
 have:=congrArg List.length h
 simpa using this.symm
theorem i2t:evp d1m [.slice 2 [] .no,.slice 2 [] .no] .none []=some ⟨.ret (vB true),.none,[]⟩:=ac 60 (by kernel_rfl)
theorem i2u:evp d1n [.slice 5 [] .no,.slice 5 [] .no] .none []=some ⟨.ret (vB true),.none,[]⟩:=ac 60 (by kernel_rfl)
theorem i2v:evp d1o [.slice 5 [] .no,.slice 5 [] .no] .none []=some ⟨.ret (vB true),.none,[]⟩:=ac 60 (by kernel_rfl)
theorem x1l {α:Type} [BEq α] [LawfulBEq α] {a b:α} (h:a=b):(a !=b)=false:=by subst h;simp
theorem tx_r {a b:ByteArray} (h:a=b):(!a.toList==b.toList)=false:=by subst h;simp
theorem g2b {N:Nat} (hN:N≤1000000) (ih:∀M,M<N→EOk M∧DOk M):EOk N:=by
 intro l l' hl ho hb
 unfold SM at hl
 have hll:=e2d hb
 have hY:(l1o (f1E l) (f1E l')).F=j1p (f1E l) (f1E l'):=by delta l1o j1p;rfl
 have hlen:((f1E l).length:Int)=((f1E l').length:Int):=by simp only[b1O,List.length_map];omega
 refine q1x (b1k (q1T ..) (a1d (fun h=>absurd hlen (bne_iff_ne.1 h)) (fun _=>a1j hY (a2h (fun i:Nat=>⟨tm2 84 [(0,(.slice 8 (f1E l) .no)),(1,(.slice 8 (f1E l') .no)),(5,(vI (i)))],lm2 84 [],⟨[],[],.none,0⟩⟩) (fun i=>i≤l.length) (fun i=>l.length-i) 0 (by kernel_rfl) (Nat.zero_le _) ?_))))
 intro i hi
 refine b1k (q1l ..) (a1d (fun hlt=>?_) (fun _=>a1h rfl))
 have hlt:=of_decide_eq_true hlt
 simp only[b1O,List.length_map] at hlt
 have hi2:i<l.length:=by omega
 have hi3:i<l'.length:=by omega
 have hm:=ho _ (List.getElem_mem hi2)
 have R:=e2c hN ih hm.1 hm.2 (g2T hb hi2 hi3)
 refine⟨_,_,_,_,_,_,_,_,o1A hi2,_,_,_,_,_,_,_,_,o1A hi3,a1s (a1d (fun h=>by rw[x1l R.k] at h;cases h) (fun _=>a1d (fun h=>by rw[x1l R.o] at h;cases h) (fun _=>a1d (fun h=>by rw[x1l R.v] at h;cases h) (fun _=>⟨true,R.texts,a1d nf (fun _=>a1e (b1k (m1Y ..) ⟨true,R.pats,a1d nf (fun _=>⟨true,R.exps,a1d nf (fun _=>⟨true,R.decs,a1d nf (fun _=>⟨true,R.tys,a1d nf (fun _=>?_)⟩)⟩)⟩)⟩))⟩))))⟩
 rw[b1f (x:=i) (by omega)]
 exact a1e ⟨i+1,⟨by omega,by omega⟩,rfl⟩
theorem k2l {d:Dec}:(DP d).length≤d.cnt:=by
 cases d with
 |val=>simp [DP]
 |func=>simp only[DP,Dec.cnt];omega
theorem g2c {N:Nat} (hN:N≤1000000) (ih:∀M,M<N→EOk M∧DOk M):DOk N:=by
 intro l l' hl ho hb
 unfold SM at hl
 have hll:=e2d hb
 have hY:(l1p (k1k l) (k1k l')).F=j1q (k1k l) (k1k l'):=by delta l1p j1q;rfl
 have hlen:((k1k l).length:Int)=((k1k l').length:Int):=by simp only[b1O,List.length_map];omega
 refine q1x (b1k (q1U ..) (a1d (fun h=>absurd hlen (bne_iff_ne.1 h)) (fun _=>a1j hY (a2h (fun i:Nat=>⟨tm2 85 [(0,(.slice 9 (k1k l) .no)),(1,(.slice 9 (k1k l') .no)),(5,(vI (i)))],lm2 85 [],⟨[],[],.none,0⟩⟩) (fun i=>i≤l.length) (fun i=>l.length-i) 0 (by kernel_rfl) (Nat.zero_le _) ?_))))
 intro i hi
 refine b1k (q1m ..) (a1d (fun hlt=>?_) (fun _=>a1h rfl))
 have hlt:=of_decide_eq_true hlt
 simp only[b1O,List.length_map] at hlt
 have hi2:i<l.length:=by omega
 have hi3:i<l'.length:=by omega
 have hm:=ho _ (List.getElem_mem hi2)
 have hbi:=g2T hb hi2 hi3
 generalize hx:l[i]=x at *
 generalize hy:l'[i]=y at *
 obtain⟨a1,a2,a3⟩:=dk_b x
 obtain⟨b1,b2,b3⟩:=dk_b y
 rw[hbi] at a1 a2 a3
 have hk:DK x=DK y:=by rw[←a1,b1]
 have hn:bs (DN x)=bs (DN y):=by rw[←a2,b2]
 have hp:DP x=DP y:=by rw[←a3,b3]
 have hT:h1P x=h1P y:=by rw[←g2w x,←g2w y,hbi]
 have hE:bE (k1N x)=bE (k1N y):=by rw[←g2v,←g2v,hbi]
 obtain⟨k1,k2,k3,k4⟩:=e2P hm.1
 have t1:evp a1U [.slice 1 (c1m (DP x)) .no,.slice 1 (c1m (DP y)) .no] .none []=some ⟨.ret (vB true),.none,[]⟩:=by
  rw[←hp];exact t1w (by have:= @k2l x;unfold SM;omega)
 have t2:evp a1S [.slice 4 (avss (DTs x)) .no,.slice 4 (avss (DTs y)) .no] .none []=some ⟨.ret (vB true),.none,[]⟩:=by
  rw[g2Q,g2Q,←hT,g2S]
  exact v1A 1000000 _ (by unfold SM;omega) (fun t ht=>(k3 t ht).1) (fun t ht=>by have:=(k3 t ht).2;omega)
 have t3:evp a1F [.slice 8 (avss (DEs x)) .no,.slice 8 (avss (DEs y)) .no] .none []=some ⟨.ret (vB true),.none,[]⟩:=by
  rw[g2R,g2R]
  exact(ih (N-1) (by omega)).1 _ _ (by unfold SM;simp) (fun t ht=>by simp only[List.mem_singleton] at ht;subst ht;exact⟨k1,by omega⟩) (by simp only[List.map_cons,List.map_nil,hE])
 have r1:=y1u hi2
 have r2:=y1u hi3
 rw[hx] at r1
 rw[hy] at r2
 refine⟨_,_,_,_,_,_,_,_,_,r1,_,_,_,_,_,_,_,_,_,r2,a1s (a1d (fun h=>by rw[x1l hk] at h;cases h) (fun _=>a1d (fun h=>by rw[tx_r hn] at h;cases h) (fun _=>⟨true,t1,a1d nf (fun _=>a1e (b1k (m1Z ..) ⟨true,t2,a1d nf (fun _=>⟨true,t3,a1d nf (fun _=>⟨true,i2t,a1d nf (fun _=>⟨true,i2u,a1d nf (fun _=>⟨true,i2v,a1d nf (fun _=>?_)⟩)⟩)⟩)⟩)⟩))⟩)))⟩
 rw[b1f (x:=i) (by omega)]
 exact a1e ⟨i+1,⟨by omega,by omega⟩,rfl⟩
theorem k2m:∀N,N≤1000000→EOk N∧DOk N:=by
 intro N
 induction N using Nat.strongRecOn with
 |ind N ih=>exact fun hN=>⟨g2b hN fun M hM=>ih M hM (by omega),g2c hN fun M hM=>ih M hM (by omega)⟩
theorem v1z {x y:Exp} (ho:x.Ok) (hc:x.cnt≤1000000) (hb:bE x=bE y):evp b1Q [expV x,expV y] .none []=some ⟨.ret (vB true),.none,[]⟩:=by
 rw[←c1r,←c1r]
 refine q1x (b1k (s1K ..) ⟨true,?_,rfl⟩)
 have e:∀t:Exp,[[vI (XK t),vI (XO t),vI (XV t),.slice 1 (c1m (XP t)) .no,.slice 5 (avss (XPs t)) .no,.slice 8 (avss (XKs t)) .no,.slice 9 (avss (XDs t)) .no,.slice 4 (avss (XTs t)) .no]]=f1E [t]:=fun t=>by simp only[f1E,List.map_cons,List.map_nil,avss,b1z]
 rw[e,e]
 have hY:(k1h (f1E [x]) (f1E [y])).F=h1V (f1E [x]) (f1E [y]):=by delta k1h h1V;rfl
 refine q1x (b1k (q1k ..) (a1d (fun h=>absurd rfl (bne_iff_ne.1 h)) (fun _=>a1j hY (a2h (fun i:Nat=>⟨tm2 84 [(0,(.slice 8 (f1E [x]) .full)),(1,(.slice 8 (f1E [y]) .full)),(5,(vI (i)))],lm2 84 [],⟨[],[],.none,0⟩⟩) (fun i=>i≤1) (fun i=>1-i) 0 (by kernel_rfl) (Nat.zero_le _) ?_))))
 intro i hi
 refine b1k (o1b ..) (a1d (fun hlt=>?_) (fun _=>a1h rfl))
 have hlt:=of_decide_eq_true hlt
 simp only[b1O,List.length_map,List.length_cons,List.length_nil] at hlt
 obtain rfl:i=0:=by omega
 have R:=e2c (N:=1000000) (by omega) (fun M hM=>k2m M (by omega)) ho hc hb
 have r1:=o1A (l:=[x]) (i:=0) (by simp)
 have r2:=o1A (l:=[y]) (i:=0) (by simp)
 simp only[List.getElem_cons_zero] at r1 r2
 refine⟨_,_,_,_,_,_,_,_,r1,_,_,_,_,_,_,_,_,r2,a1s (a1d (fun h=>by rw[x1l R.k] at h;cases h) (fun _=>a1d (fun h=>by rw[x1l R.o] at h;cases h) (fun _=>a1d (fun h=>by rw[x1l R.v] at h;cases h) (fun _=>⟨true,R.texts,a1d nf (fun _=>a1e (b1k (m1l ..) ⟨true,R.pats,a1d nf (fun _=>⟨true,R.exps,a1d nf (fun _=>⟨true,R.decs,a1d nf (fun _=>⟨true,R.tys,a1d nf (fun _=>?_)⟩)⟩)⟩)⟩))⟩))))⟩
 exact a1e ⟨1,⟨by omega,by omega⟩,rfl⟩
theorem a2T {x:Exp} (ho:x.Ok) (hc:x.cnt≤1000000):∃e:Int,evp b1H [expV x] .none []=some ⟨.ret (vI e),.none,[]⟩∧(e=4↔100<Xdep x):=by
 obtain⟨hT,hlen,h1R,hcr,hb,hpos⟩:=e1C x ho hc
 have hW:Wu x.cnt≤100000000000:=x1k hc
 have hcn:Ck.cnts [x.row]≤2*x.cnt:=by simp only[Ck.cnts,h1R];omega
 have hw:=Ck.a2g (N:=Ck.cnts [x.row]) (fun M _=>Ck.y1n M) [x.row] (Nat.le_refl _) (fun r hr=>by simp at hr;subst hr;exact hT) 0 0 0 (by unfold Ck.BIG;omega) (by unfold Ck.BIG;omega)
 rw[show Ck.wms 0 0 [x.row]=Xdep x from rfl] at hw
 simp only[avss] at hw
 obtain⟨er,he4,hty⟩:=(Ck.g2K (Ck.oneR x.row+Ck.cntR x.row)).exp x.row (Nat.le_refl _) hT (by unfold Ck.c1j;omega)
 have htyK:∀K:Heap,lowss K.length K=true→evp b1e [expV x] .none K=some ⟨Ck.oc er,.none,K⟩:=fun K hK=>o1o u1R hty (t1A _ _) (by unfold Ck.oc;split<;>rfl) hK
 rw[b1z] at hw
 by_cases h:100<Xdep x
 ·rw[←c1r]
  exact⟨4,t1z (b1k (m1j ..) ⟨_,_,_,hw,a1d (fun _=>rfl) (fun hn=>absurd (of_decide_eq_false hn) (by omega))⟩),fun _=>h,fun _=>rfl⟩
 ·have hk:=htyK [[vI (0+Ck.cnts [x.row]:Nat),vI 0,vI (Xdep x:Nat)],[vI 0]] rfl
  rw[←c1r] at hk⊢
  refine⟨er,t1z (b1k (m1j ..) ⟨_,_,_,hw,a1d (fun hn=>absurd (of_decide_eq_true hn) (by omega)) (fun _=>?_)⟩),fun h4=>absurd h4 he4,fun hh=>absurd hh h⟩
  unfold Ck.oc at hk
  by_cases h0:er=0
  ·rw[if_pos h0] at hk
   subst h0
   exact .inl ⟨hk,rfl⟩
  ·rw[if_neg h0] at hk
   exact .inr ⟨er,hk,rfl⟩
end Go.Proofs
end

section
/- PARSE: what a text is asq an expression: the program's answer; the laws ParseParens, ParsePairs -/
set_option linter.unusedVariables false
set_option linter.unusedSimpArgs false
set_option maxRecDepth 100000
open Go Go.Eng Go.Pa
open Go.Lx (T Tok Pieces)
namespace Go.Proofs
def expW (s:ByteArray):Except (Nat×Nat) Exp:=
 match lexA s with
 | .error x=>.error x
 | .ok ts=>match whole s.size (pExp s.size (8*ts.length+7) ts) with
  | .error x=>.error x
  | .ok t=>if 100<Xdep t then .error (0,4) else .ok t
def n1V:Except (Nat×Nat) Exp→AV
 | .error (p,e)=>.tuple [exp0,vI p,vI e]
 | .ok t=>.tuple [expV t,vI 0,vI 0]
theorem x1m {t:Exp} (ho:t.Ok) (hc:t.cnt≤1000000) {K:Heap} (hk:lowss K.length K=true):∃e:Int,evp b1H [expV t] .none K=some ⟨.ret (vI e),.none,K⟩∧(e=4↔100<Xdep t):=by
 obtain⟨e,h,h4⟩:=a2T ho hc
 exact⟨e,o1o u1R h (t1A _ _) rfl hk,h4⟩
theorem n1n {s:ByteArray} {ts:List Tok} (h:lexA s=.ok ts) {t:Exp} {l:List Tok} (hF:pExp s.size (8*ts.length+7) ts=.ok t l):t.Ok∧t.cnt≤1000000:=by
 obtain⟨h1,h2,h3,h4⟩:=g1h h
 obtain⟨q1,q2,q3⟩:=(wtE s.size (by omega) (8*ts.length+7)).exp h3 t l hF
 exact⟨q1,by omega⟩
theorem e2e (s:ByteArray):evp b1j [vS s] .none []=some ⟨.ret (n1V (expW s)),.none,[]⟩:=by
 refine x1p (b1k (c2Y ..) (g2W (fun ts hts=>?_) (fun p e he=>?_)))
 ·obtain⟨hs,hg,h4,hl⟩:=g1h hts
  refine a1d nf (fun _=>?_)
  obtain⟨r,c,hr⟩:=(g2C s.size (8*ts.length+7) (by omega)).Exp (l:=ts) (d:=0) hg (by omega) (by unfold BIG;omega)
  cases hF:pExp s.size (8*ts.length+7) ts with
  |ok t l=>
   rw[hF] at hr
   obtain⟨hgl,rfl⟩:=hr
   obtain⟨ho,hc⟩:=n1n hts hF
   obtain⟨e,cR,he4⟩:=x1m ho hc (K:=[hp5 (tks l) s.size 0 0 0]) g2U
   rw[←c1r] at cR c
   refine .inl ⟨_,_,_,_,_,_,_,_,_,_,_,_,_,c,a1d nf fun _=>?_⟩
   cases l with
   |cons u l=>
    refine a1d (fun _=>⟨_,_,_,_,⟨Int.le_refl _,rfl⟩,?_⟩) (fun h=>absurd (of_decide_eq_false h) (by simp))
    simp only[expW,hts,hF,whole,n1V];rfl
   |nil=>
    refine a1d (fun h=>absurd (of_decide_eq_true h) (by simp)) (fun _=>⟨_,cR,a1d (fun h=>?_) (fun h=>⟨h1a ..,k1G ..,k1G ..,k1G ..,k1G ..,h1a ..,k1G ..,k1G ..,k1G ..,k1G ..,?_⟩)⟩)
    ·simp only[expW,hts,hF,whole,if_pos (he4.1 (eq_of_beq h)),n1V];rfl
    ·rw[beq_eq_false_iff_ne] at h
     simp only[expW,hts,hF,whole,if_neg (fun hd=>h (he4.2 hd)),n1V,←c1r];rfl
  |no e p=>
   rw[hF] at hr
   obtain⟨he,l,rfl⟩:=hr
   rw[if_pos rfl] at c
   refine .inl ⟨_,_,_,_,_,_,_,_,_,_,_,_,_,c,a1d (fun _=>⟨ne0 he,?_⟩) (fun h=>by rw[ne0 he] at h;cases h)⟩
   simp only[expW,hts,hF,whole,n1V];rfl
 ·have hne:=(t1E he).1
  refine a1d (fun _=>⟨ne0 hne,?_⟩) (fun h=>by rw[ne0 hne] at h;cases h)
  simp only[expW,he,n1V];rfl
section
variable {QD:List (St→Prop)} {QR:CRes→Prop}
theorem x1n {s:ByteArray} {K:Int→Int→Int→List (List AV)→List (List AV)→List (List AV)→List (List AV)→List (List AV)→Int→Int→KT}
  (hok:∀t,expW s=.ok t→(K (XK t) (XO t) (XV t) (c1m (XP t)) (avss (XPs t)) (avss (XKs t)) (avss (XDs t)) (avss (XTs t)) 0 0).wp Pg cfg0 evp QD QR) (herr:∀p e,expW s=.error (p,e)→(K 0 0 0 [] [] [] [] [] p e).wp Pg cfg0 evp QD QR):
  (zq9 b1j [vS s] [] K).wp Pg cfg0 evp QD QR:=by
 have h:=e2e s
 cases hx:expW s with
 |ok t=>
  rw[hx] at h
  simp only[n1V,expV,b1z] at h
  exact⟨_,_,_,_,_,_,_,_,_,_,h,hok t hx⟩
 |error e=>obtain⟨p,e⟩:=e;rw[hx] at h;exact⟨_,_,_,_,_,_,_,_,_,_,h,herr p e hx⟩
end
theorem t1v {s:ByteArray} {t:Exp} (h:expW s=.ok t):∃ts,lexA s=.ok ts∧pExp s.size (8*ts.length+7) ts=.ok t []∧Xdep t≤100∧t.Ok∧t.cnt≤1000000:=by
 unfold expW at h
 cases hl:lexA s with
 |error x=>rw[hl] at h;cases h
 |ok ts=>
  rw[hl] at h
  simp only at h
  cases hF:pExp s.size (8*ts.length+7) ts with
  |no e p=>rw[hF] at h;cases h
  |ok u l=>
   rw[hF] at h
   cases l with
   |cons a l=>cases h
   |nil=>
    simp only[whole] at h
    split at h
    ·cases h
    ·injection h with h;subst h
     exact⟨ts,rfl,hF,by omega,n1n hl hF⟩
theorem y1v {s:ByteArray} {p e:Nat} (h:expW s=.error (p,e)):e≠0:=by
 have c:=e2e s
 unfold expW at h
 cases hl:lexA s with
 |error x=>
  rw[hl] at h
  simp only at h
  injection h with h;subst h
  exact(t1E hl).1
 |ok ts=>
  obtain⟨hs,hg,h4,hle⟩:=g1h hl
  rw[hl] at h
  simp only at h
  cases hF:pExp s.size (8*ts.length+7) ts with
  |no e' p'=>
   obtain⟨r,_,hr⟩:=(g2C s.size (8*ts.length+7) (by omega)).Exp (l:=ts) (d:=0) hg (by omega) (by unfold BIG;omega)
   rw[hF] at h hr
   simp only[whole] at h
   injection h with h;injection h with h1 h2;subst h2
   exact hr.1
  |ok u l=>
   rw[hF] at h
   cases l with
   |cons a l=>simp only[whole] at h;injection h with h;injection h with h1 h2;omega
   |nil=>
    simp only[whole] at h
    split at h
    ·injection h with h;injection h with h1 h2;omega
    ·cases h
theorem x1o {l:T} {a:Nat} {ts:List Tok} (h:Pieces resP l a ts):∀{cnt:Nat},cnt≤1024→1024<cnt+ts.length→∃p,Lx.lx resP l a cnt=.error (p,3):=by
 induction h with
 |nil hb=>intro cnt h1 h2;simp at h2;omega
 | @cons b x l a k v ts hb h1 hh ho _ ih=>
  intro cnt hc hc2
  simp only[List.length_cons] at hc2
  obtain⟨b1,b2,_⟩:=Lx.e1f h1
  cases hx:x++l with
  |nil=>have:=congrArg List.length hx;simp at this b1;rw[this.1] at b1;simp at b1
  |cons c r=>
   rw[hx] at h1 hh ho
   have hs:Lx.skp (b++(c::r))=(b.length,true):=by rw[hb,Lx.x1V (hh c rfl) ho];simp
   have hdr:(b++(c::r)).drop b.length=c::r:=by simp
   have hr:r.drop (x.length-1)=l:=by rw[Lx.g1x c r b1,←hx];simp
   rw[Lx.z1z,hs]
   simp only[hdr,h1]
   by_cases h0:cnt=1024
   ·rw[if_pos h0];exact⟨_,rfl⟩
   ·rw[if_neg h0,hr]
    obtain⟨p,hp⟩:=ih (cnt:=cnt+1) (by omega) (by omega)
    rw[hp];exact⟨p,rfl⟩
theorem g2d {s:ByteArray} {ts:List Tok} (hs:s.size≤4096) (h:Pieces resP (tx s) 0 ts):lexA s=.ok ts∨∃p,lexA s=.error (p,3):=by
 by_cases hl:ts.length≤1024
 ·exact .inl (i2A hs h hl)
 ·right
  unfold lexA
  rw[if_neg (by omega)]
  exact x1o h (by omega) (by omega)
theorem tx_b0:tx (⟨#[40]⟩:ByteArray)=[40]:=rfl
theorem tx_b1:tx (⟨#[10,41]⟩:ByteArray)=[10,41]:=rfl
theorem tx_b2:tx (⟨#[10,44,10]⟩:ByteArray)=[10,44,10]:=rfl
theorem q1w (a b:ByteArray):(a++b).size=a.size+b.size:=ByteArray.size_append
theorem kids2 (x y:Exp):c1k (.pair x y)=[x,y]:=rfl
theorem i2w {s t:ByteArray} {x y:Exp} (h:expW s=.ok x) (k:expW t=.ok y) (hs:s.size+t.size+6≤4096):
  (∃x' y',expW (⟨#[40]⟩++s++⟨#[10,44,10]⟩++t++⟨#[10,41]⟩)=.ok (.pair x' y')∧bE x'=bE x∧bE y'=bE y∧x'.Ok∧x'.cnt≤1000000∧y'.Ok∧y'.cnt≤1000000)∨∃p e,expW (⟨#[40]⟩++s++⟨#[10,44,10]⟩++t++⟨#[10,41]⟩)=.error (p,e)∧(e=3∨e=4):=by
 obtain⟨ts,hl,hF,hd,ho,hc⟩:=t1v h
 obtain⟨ts',hl',hF',hd',ho',hc'⟩:=t1v k
 obtain⟨us,us',a,b,hP,hb,hb'⟩:=u1L (y:=y) (z2:=0) (x1v hl).2.1 hF (x1v hl').2.1
 have hlen:us.length=ts.length:=by have:=congrArg List.length hb;simpa using this
 have hlen':us'.length=ts'.length:=by have:=congrArg List.length hb';simpa using this
 generalize hA:(⟨#[40]⟩++s++⟨#[10,44,10]⟩++t++⟨#[10,41]⟩:ByteArray)=A
 have hsz:A.size=s.size+t.size+6:=by
  rw[←hA,q1w,q1w,q1w,q1w,show (⟨#[40]⟩:ByteArray).size=1 from rfl,show (⟨#[10,41]⟩:ByteArray).size=2 from rfl,show (⟨#[10,44,10]⟩:ByteArray).size=3 from rfl];omega
 have hP':Pieces resP (tx A) 0 (mk wOpen 0::(us++mk wComma a::(us'++[mk wClose b]))):=by
  rw[←hA,m1s,m1s,m1s,m1s,tx_b0,tx_b1,tx_b2];simpa using hP
 rcases g2d (by omega) hP' with hL|⟨p,hL⟩
 ·have hm:=x1S (z:=s.size) (n:=8*ts.length+7) (l:=ts) (Nat.le_refl _) (8*ts'.length+17)
  have hm':=x1S (z:=t.size) (n:=8*ts'.length+7) (l:=ts') (Nat.le_refl _) (8*ts.length+17)
  rw[hF] at hm
  rw[hF',show 8*ts'.length+7+(8*ts.length+17)=8*ts.length+7+(8*ts'.length+17) by omega] at hm'
  obtain⟨x',y',hy,hbx,hby⟩:=w1p (z:=s.size) (z2:=t.size) (z':=A.size) (a:=0) (b:=b) (c:=a) hb hm hb' hm'
  have hn:8*(mk wOpen 0::(us++mk wComma a::(us'++[mk wClose b]))).length+7=8*ts.length+7+(8*ts'.length+17)+7:=by simp only[List.length_cons,List.length_append,List.length_nil];omega
  rw[←hn] at hy
  obtain⟨hok,hcn⟩:=n1n hL hy
  have hk:=(x1O hok).kids
  rw[kids2] at hk
  have k1:=hk x' (by simp)
  have k2:=hk y' (by simp)
  by_cases hdp:100<Xdep (.pair x' y')
  ·right
   refine⟨0,4,?_,.inr rfl⟩
   simp only[expW,hL]
   rw[hy]
   simp only[whole]
   rw[if_pos hdp]
  ·left
   refine⟨x',y',?_,hbx,hby,k1.1,by omega,k2.1,by omega⟩
   simp only[expW,hL]
   rw[hy]
   simp only[whole]
   rw[if_neg hdp]
 ·right
  refine⟨p,3,?_,.inl rfl⟩
  simp only[expW,hL]
theorem q1X (s t:ByteArray):evp c1P [vS s,vS t] .none []=some ⟨.ret (vB true),.none,[]⟩:=by
 refine x1p (b1k (q1n ..) (x1n (fun x hx=>x1n (fun y hy=>?_) (fun p e he=>?_)) (fun p e he=>?_)))
 ·obtain⟨ts,hl,hF,hd,ho,hc⟩:=t1v hx
  obtain⟨ts',hl',hF',hd',ho',hc'⟩:=t1v hy
  have hs:=(g1h hl).1
  have hs':=(g1h hl').1
  refine a1s (a1d nf (fun _=>a1d nf (fun _=>a1d (fun _=>⟨_,o1D,a1h rfl⟩) (fun h3=>a1e (b1k (n1a ..) ?_)))))
  have h3:=of_decide_eq_false h3
  rw[show IntKind.i64.wrap ((s.size:Int)+(t.size:Int))=((s.size+t.size:Nat):Int) from x1I (x:=s.size) (y:=t.size) (by omega),show IntKind.i64.wrap (((s.size+t.size:Nat):Int)+6)=((s.size+t.size+6:Nat):Int) from x1I (x:=s.size+t.size) (y:=6) (by omega)] at h3
  have e0:(⟨#[40]⟩:ByteArray).size=1:=rfl
  have e1:(⟨#[10,41]⟩:ByteArray).size=2:=rfl
  have e2:(⟨#[10,44,10]⟩:ByteArray).size=3:=rfl
  have em:IntKind.i64.max=9223372036854775807:=rfl
  have hl3:s.size+t.size+6≤4096:=by omega
  refine⟨by rw[em];simp only[e0];exact decide_eq_true (by omega),by rw[em];simp only[q1w,e0,e2];exact decide_eq_true (by omega),by rw[em];simp only[q1w,e0,e2];exact decide_eq_true (by omega),by rw[em];simp only[q1w,e0,e1,e2];exact decide_eq_true (by omega),?_⟩
  have cA:=e2e (⟨#[40]⟩++s++⟨#[10,44,10]⟩++t++⟨#[10,41]⟩)
  rcases i2w hx hy hl3 with ⟨x',y',hw,hbx,hby,o1,q1,o2,q2⟩|⟨p,e,hw,he⟩
  ·have hS1:=v1z o1 q1 hbx
   have hS2:=v1z o2 q2 hby
   rw[hw] at cA
   simp only[n1V,c2G] at cA
   simp only[expV,b1z] at hS1 hS2
   have r1:(0:Int)≤0∧[avs x'.row,avs y'.row][(0:Int).toNat]? =some (ex8 x'):=⟨by decide,by rw[b1z];rfl⟩
   have r2:(0:Int)≤1∧[avs x'.row,avs y'.row][(1:Int).toNat]? =some (ex8 y'):=⟨by decide,by rw[b1z y'];rfl⟩
   exact⟨_,_,_,_,_,_,_,_,_,_,cA,a1d nf (fun _=>a1d (fun _=>a1d (fun _=>⟨_,_,_,_,_,_,_,_,r1,_,hS1,a1d (fun _=>⟨_,_,_,_,_,_,_,_,r2,_,hS2,a1d (fun _=>⟨_,o1D,rfl⟩) (fun h=>by cases h)⟩) (fun h=>by cases h)⟩) (fun h=>by cases h)) (fun h=>absurd h (by decide)))⟩
  ·rw[hw] at cA
   rcases he with rfl|rfl
   ·exact⟨_,_,_,_,_,_,_,_,_,_,cA,a1d (fun _=>a1d (fun _=>⟨_,o1D,rfl⟩) (fun h=>absurd h (by decide))) (fun h=>absurd h (by decide))⟩
   ·exact⟨_,_,_,_,_,_,_,_,_,_,cA,a1d (fun _=>a1d (fun h=>absurd h (by decide)) (fun _=>a1d (fun _=>⟨_,o1D,rfl⟩) (fun h=>absurd h (by decide)))) (fun h=>absurd h (by decide))⟩
 ·have hne:=y1v he
  exact a1s (a1d nf (fun _=>a1d (fun _=>⟨_,o1D,a1h rfl⟩) (fun h=>by rw[ne0 hne] at h;cases h)))
 ·have hne:=y1v he
  exact x1n (fun y hy=>a1s (a1d (fun _=>⟨_,o1D,a1h rfl⟩) (fun h=>by rw[ne0 hne] at h;cases h))) (fun p e he2=>a1s (a1d (fun _=>⟨_,o1D,a1h rfl⟩) (fun h=>by rw[ne0 hne] at h;cases h)))
end Go.Proofs
end
