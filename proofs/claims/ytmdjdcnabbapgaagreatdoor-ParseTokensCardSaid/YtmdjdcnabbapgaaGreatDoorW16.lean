/- Texts of this proof folded into one: RX2 R2 R3 R4 TE RX8 U2 U3 R0b T1 TI. -/
import Derived.Test.YtmdjdcnabbapgaaGreatDoorW15
import Derived.Test.YtmdjdcnabbapgaaGreatDoorW7
import Derived.Test.YtmdjdcnabbapgaaGreatDoorW6
section
/- TREES, printed by kt.py out of y2.txt -/
open Go Go.Eng
open IntKind (wrap)
namespace Go.Proofs
set_option linter.unusedVariables false
set_option maxRecDepth 100000
@[irreducible] noncomputable def m1h (l:List (List AV)) (z d i:Int) (s:ByteArray) (l1 l2 l3:List (List AV)) (i1 i2 i3 i4:Int):KT:=((((((((((kt5 b1m [.ptr 0 0] [[.slice 4 l .no,vI z,vI 0,vI 0,vI d]]).T.I i).S s).R l1).R l2).R l3).I i1).I i2).I i3).I i4).T
@[irreducible] noncomputable def c2F (l:List (List AV)) (z d:Int):KT:=kt5 b1j [.ptr 0 0] [[.slice 4 l .no,vI z,vI 0,vI 0,vI d]]
@[irreducible] noncomputable def o1u (l:List (List AV)) (z d:Int) (b b1:Bool):KT:=(kt5 a1C [.ptr 0 0,vB b,vB b1] [[.slice 4 l .no,vI z,vI 0,vI 0,vI d]]).T.T
@[irreducible] noncomputable def k1A (l:List (List AV)) (z d:Int) (b b1:Bool) (i:Int) (s:ByteArray) (i1 i2:Int):KT:=(((((kt5 a1C [.ptr 0 0,vB b,vB b1] [[.slice 4 l .no,vI z,vI 0,vI 0,vI d]]).F.I i).S s).I i1).I i2).T.T
theorem s1F (l z d i) (s:ByteArray) (l1 l2 l3 i1 i2 i3 i4 k) (n:ByteArray) (p q m z' e a d'):KT.round Pg cfg0 rs0 kc5 (m1h l z d i s l1 l2 l3 i1 i2 i3 i4) (zkS 14 [(0,zkP),(2,.lp 2 0 0),(3,.lp 3 0 0)] [(2,0,zk17 zkb2),(3,0,zk6 k n p q)] [zk1 m z' e a d'] 1)=
 zk20 a1g [zkP,vS h1k] [zk1 m z' e a d'] (fun b l4 i5 i6 i7 i8=>.branch b (zk63 b1j [zkP] [zk1 l4 i5 i6 i7 i8] (fun i9 s1 l5 l6 l7 i10 i11 i12 i13=>.done (zkS 14 [(0,zkP),(2,.lp 2 0 0),(3,.lp 3 0 0)] [(2,0,zk17 zkb2),(3,0,[vI 4,vS zkb2,zkE,.slice 4 [zk6 k n p q,zk6 i9 s1 l5 l6] .full])] [zk1 l7 i10 i11 i12 i13] 1)) (fun l5 i9 i10 i11 i12=>.out (.need true (.ret (zkQ zkF0 [zk1 l5 i9 i10 i11 i12]))))) (.out (.need true (.ret (zkR (.agg (zk6 k n p q)) [zk1 l4 i5 i6 i7 i8]))))):=by kernel_rfl
theorem s1G (l z d i) (s:ByteArray) (l1 l2 l3 i1 i2 i3 i4 r1 r2 m z' e a d'):KT.round Pg cfg0 rs0 kc5 (m1h l z d i s l1 l2 l3 i1 i2 i3 i4) (zkS 14 [(0,zkP),(2,.lp 2 0 0),(3,.lp 3 0 0)] [(2,0,zk17 zkb2),(3,0,[vI 4,vS zkb2,zkE,.slice 4 [r1,r2] .full])] [zk1 m z' e a d'] 1)=
 zk20 a1g [zkP,vS h1k] [zk1 m z' e a d'] (fun b l4 i5 i6 i7 i8=>.branch b (zk63 b1j [zkP] [zk1 l4 i5 i6 i7 i8] (fun i9 s1 l5 l6 l7 i10 i11 i12 i13=>.done (zkS 14 [(0,zkP),(2,.lp 2 0 0),(3,.lp 3 0 0)] [(2,0,zk17 zkb2),(3,0,[vI 4,vS zkb2,zkE,.slice 4 [[vI 4,vS zkb2,zkN 1 [],zkN 4 [r1,r2]],zk6 i9 s1 l5 l6] .full])] [zk1 l7 i10 i11 i12 i13] 1)) (fun l5 i9 i10 i11 i12=>.out (.need true (.ret (zkQ zkF0 [zk1 l5 i9 i10 i11 i12]))))) (.out (.need true (.ret (zkR (.agg [vI 4,vS zkb2,zkN 1 [],zkN 4 [r1,r2]]) [zk1 l4 i5 i6 i7 i8]))))):=by kernel_rfl
theorem z1z (l z d) (i:Nat) (m z' e a d'):KT.round Pg cfg0 rs0 kc5 (c2F l z d) (zkS 35 [(0,zkP),(2,.lp 2 0 0),(6,.slice 1 [[vS z1c],[vS zkb7],[vS z1a]] .full),(7,vI 3),(8,vI (↑i:Int))] [(2,0,zk17 zkb2)] [zk1 m z' e a d'] 1)=
 .branch (decide ((↑i:Int)<3)) (.exS fun s=>.row [[vS z1c],[vS zkb7],[vS z1a]] (↑i:Int) [vS s] (zk20 a1g [zkP,vS s] [zk1 m z' e a d'] (fun b l1 i1 i2 i3 i4=>.branch b (.out (.need true (.ret (zkR (.agg (zk95 zkb2 s)) [zk1 l1 i1 i2 i3 i4])))) (.done (zkS 35 [(0,zkP),(2,.lp 2 0 0),(6,.slice 1 [[vS z1c],[vS zkb7],[vS z1a]] .full),(7,vI 3),(8,vI (wrap .i64 ((↑i:Int)+1)))] [(2,0,zk17 zkb2)] [zk1 l1 i1 i2 i3 i4] 1))))) (.out (zk5 a1l [zkP,vI 5] [zk1 m z' e a d'] (fun b=>.branch b (zk64 a1y [zkP,vI 5] [zk1 m z' e a d'] (fun s l1 i1 i2 i3 i4=>.need (decide ((0:Int)≤1∧1≤(↑s.size:Int)∧(↑s.size:Int)≤(↑s.size:Int))) (.need true (.ret (zkR (.agg [vI 1,vS (s.extract (Int.toNat 1) (↑s.size:Int).toNat),zkN 1 [],zkN 4 []]) [zk1 l1 i1 i2 i3 i4])))) (fun l1 i1 i2 i3 i4=>.need true (.ret (zkQ zkF0 [zk1 l1 i1 i2 i3 i4])))) (zk20 a1g [zkP,vS b2S] [zk1 m z' e a d'] (fun b1 l1 i1 i2 i3 i4=>.branch b1 (zk63 a1o [zkP] [zk1 l1 i1 i2 i3 i4] (fun i5 s l2 l3 l4 i6 i7 i8 i9=>zk31 a1f [zkP,vS b2R] [zk1 l4 i6 i7 i8 i9] (fun l5 i10 i11 i12 i13=>.need true (.ret (zkR (.agg (zk6 i5 s l2 l3)) [zk1 l5 i10 i11 i12 i13]))) (fun l5 i10 i11 i12 i13=>.need true (.ret (zkQ zkF0 [zk1 l5 i10 i11 i12 i13])))) (fun l2 i5 i6 i7 i8=>.need true (.ret (zkQ zkF0 [zk1 l2 i5 i6 i7 i8])))) (.alt (zk89 b1B [zkP,vB true] [zk1 l1 i1 i2 i3 i4] (fun l2 l3 i5 i6 i7 i8=>.need true (.ret (zkR (.agg [vI 2,vS zkb2,zkN 1 l2,zkN 4 []]) [zk1 l3 i5 i6 i7 i8])))) (zk12 b1B [zkP,vB true] [zk1 l1 i1 i2 i3 i4] (fun l2 i5 i6 i7 i8=>.need true (.ret (zkQ zkF0 [zk1 l2 i5 i6 i7 i8])))))))))):=by kernel_rfl
@[irreducible] noncomputable def c2G (l:List (List AV)) (z d:Int) (b b1:Bool) (m:List (List AV)) (a0 z' e a d':Int):KT:=KT.round Pg cfg0 rs0 kc5 (o1u l z d b b1) (zkS 66 [(0,zkP),(1,vB b),(2,vB b1),(8,vI a0),(9,zkE)] [] [zk1 m z' e a d'] 1)
theorem v1e (l z d) (b b1:Bool) (m a0 z' e a d'):KT.round Pg cfg0 rs0 kc5 (o1u l z d b b1) (zkS 66 [(0,zkP),(1,vB b),(2,vB b1),(8,vI a0),(9,zkE)] [] [zk1 m z' e a d'] 1)=
 zk5 a1l [zkP,vI 1] [zk1 m z' e a d'] (fun b2=>.stage (zk5 a1l [zkP,vI 2] [zk1 m z' e a d'] (fun b3=>.branch (!b3) (.branch b2 (.branch (!b) (.branch ((↑m.length:Int)==0) (.need true (.need true (.out (.out (.need true (.ret (zkQ zkF0 [zk28 m z' z' d']))))))) (.exI fun i=>.exS fun s=>zkI2 fun i1 i2=>.row m 0 (zk9 i s i1 i2) (.need true (.need true (.out (.out (.need true (.ret (zkQ zkF0 [zk28 m z' i2 d']))))))))) (.done (zkS 66 [(0,zkP),(1,vB b),(2,vB b1),(8,vI a0),(9,zkE),(10,vB b2)] [] [zk1 m z' e a d'] 1))) (.branch ((↑m.length:Int)==0) (.need true (.need true (.out (.out (.need true (.ret (zkQ zkF0 [zk28 m z' z' d']))))))) (.exI fun i=>.exS fun s=>zkI2 fun i1 i2=>.row m 0 (zk9 i s i1 i2) (.need true (.need true (.out (.out (.need true (.ret (zkQ zkF0 [zk28 m z' i2 d'])))))))))) (.done (zkS 66 [(0,zkP),(1,vB b),(2,vB b1),(8,vI a0),(9,zkE),(10,vB b2)] [] [zk1 m z' e a d'] 1)))) (((c2G l z d b b1 m a0 z' e a d').B b2).T.K)):=by kernel_rfl
@[irreducible] noncomputable def q1b (l:List (List AV)) (z d:Int) (b b1:Bool) (i:Int) (s:ByteArray) (i1 i2:Int) (m:List (List AV)) (a0 z' e a d':Int):KT:=KT.round Pg cfg0 rs0 kc5 (k1A l z d b b1 i s i1 i2) (zkS 66 [(0,zkP),(1,vB b),(2,vB b1),(8,vI a0),(9,zkE)] [] [zk1 m z' e a d'] 1)
theorem v1f (l z d) (b b1:Bool) (i) (s:ByteArray) (i1 i2 m a0 z' e a d'):KT.round Pg cfg0 rs0 kc5 (k1A l z d b b1 i s i1 i2) (zkS 66 [(0,zkP),(1,vB b),(2,vB b1),(8,vI a0),(9,zkE)] [] [zk1 m z' e a d'] 1)=
 zk5 a1l [zkP,vI 1] [zk1 m z' e a d'] (fun b2=>.stage (zk5 a1l [zkP,vI 2] [zk1 m z' e a d'] (fun b3=>.branch (!b3) (.branch b2 (.branch (!b) (.branch ((↑m.length:Int)==0) (.need true (.need true (.out (.out (.need true (.ret (zkQ zkF0 [zk28 m z' z' d']))))))) (.exI fun i3=>.exS fun s1=>zkI2 fun i4 i5=>.row m 0 (zk9 i3 s1 i4 i5) (.need true (.need true (.out (.out (.need true (.ret (zkQ zkF0 [zk28 m z' i5 d']))))))))) (.done (zkS 66 [(0,zkP),(1,vB b),(2,vB b1),(8,vI a0),(9,zkE),(10,vB b2)] [] [zk1 m z' e a d'] 1))) (.branch ((↑m.length:Int)==0) (.need true (.need true (.out (.out (.need true (.ret (zkQ zkF0 [zk28 m z' z' d']))))))) (.exI fun i3=>.exS fun s1=>zkI2 fun i4 i5=>.row m 0 (zk9 i3 s1 i4 i5) (.need true (.need true (.out (.out (.need true (.ret (zkQ zkF0 [zk28 m z' i5 d'])))))))))) (.done (zkS 66 [(0,zkP),(1,vB b),(2,vB b1),(8,vI a0),(9,zkE),(10,vB b2)] [] [zk1 m z' e a d'] 1)))) (((q1b l z d b b1 i s i1 i2 m a0 z' e a d').B b2).T.K)):=by kernel_rfl
@[irreducible] noncomputable def q1c (l:List (List AV)) (z d:Int) (b b1:Bool) (i:Int) (s:ByteArray) (i1 i2:Int) (m:List (List AV)) (a0 z' e a d':Int) (b2:Bool):KT:=((q1b l z d b b1 i s i1 i2 m a0 z' e a d').B b2).T.K (zkS 66 [(0,zkP),(1,vB b),(2,vB b1),(8,vI a0),(9,zkE),(10,vB b2)] [] [zk1 m z' e a d'] 1)
theorem q1L (l z d) (b b1:Bool) (i) (s:ByteArray) (i1 i2 m a0 z' e a d') (b2:Bool):((q1b l z d b b1 i s i1 i2 m a0 z' e a d').B b2).T.K (zkS 66 [(0,zkP),(1,vB b),(2,vB b1),(8,vI a0),(9,zkE),(10,vB b2)] [] [zk1 m z' e a d'] 1)=
 .exI fun i3=>.exS fun s1=>zkI2 fun i4 i5=>.row m 0 (zk9 i3 s1 i4 i5) (.need true (.need (decide ((m=[]∨(fun x=>x.size) Pg.types[e1y]=4)∧(0:Int)≤1∧1≤(↑m.length:Int)∧(↑m.length:Int)≤(↑m.length:Int))) (.stage (.branch (decide ((↑(List.map (fun x=>List.map AV.dis x) [[a1D Pg b1T (AV.val (Value.string s1)).dis]]).length:Int)>8)) (.need true (.out (.out (.need true (.ret (zkQ zkF0 [[zkN 4 (List.drop (Int.toNat 1) m),vI z',vI 3,vI a0,vI d']])))))) (.done (zkS 66 [(0,zkP),(1,vB b),(2,vB b1),(8,vI a0),(9,.slice 1 [[vS s1]] .yes),(10,vB b2)] [] [zk1 (List.drop (Int.toNat 1) m) z' e a d'] 1))) ((((((q1c l z d b b1 i s i1 i2 m a0 z' e a d' b2).I i3).S s1).I i4).I i5).T.T.T.K)))):=by kernel_rfl
theorem q1M (l z d) (b b1:Bool) (i) (s:ByteArray) (i1 i2 m a0 z' e a d') (b2:Bool) (i3) (s1:ByteArray) (i4 i5):(((((q1c l z d b b1 i s i1 i2 m a0 z' e a d' b2).I i3).S s1).I i4).I i5).T.T.T.K (zkS 66 [(0,zkP),(1,vB b),(2,vB b1),(8,vI a0),(9,.slice 1 [[vS s1]] .yes),(10,vB b2)] [] [zk1 (List.drop (Int.toNat 1) m) z' e a d'] 1)=
 .branch b2 (.out (.need true (.ret (zkR (.tuple [zkN 1 [[vS s1]],vB b2]) [zk1 (List.drop (Int.toNat 1) m) z' e a d'])))) (.branch b1 (zk5 a1r [zkP,vS y1Z] [zk1 (List.drop (Int.toNat 1) m) z' e a d'] (fun b3=>.branch (!b3) (.out (.need true (.ret (zkR (.tuple [zkN 1 [[vS s1]],vB b2]) [zk1 (List.drop (Int.toNat 1) m) z' e a d'])))) (zk31 a1f [zkP,vS y1Z] [zk1 (List.drop (Int.toNat 1) m) z' e a d'] (fun l1 i6 i7 i8 i9=>.done (zkS 66 [(0,zkP),(1,vB b),(2,vB b1),(8,vI a0),(9,.slice 1 [[vS s1]] .yes)] [] [zk1 l1 i6 i7 i8 i9] 1)) (fun l1 i6 i7 i8 i9=>.out (.need true (.ret (zkQ zkF0 [zk1 l1 i6 i7 i8 i9]))))))) (zk31 a1f [zkP,vS y1Z] [zk1 (List.drop (Int.toNat 1) m) z' e a d'] (fun l1 i6 i7 i8 i9=>.done (zkS 66 [(0,zkP),(1,vB b),(2,vB b1),(8,vI a0),(9,.slice 1 [[vS s1]] .yes)] [] [zk1 l1 i6 i7 i8 i9] 1)) (fun l1 i6 i7 i8 i9=>.out (.need true (.ret (zkQ zkF0 [zk1 l1 i6 i7 i8 i9])))))):=by kernel_rfl
@[irreducible] noncomputable def q1d (l:List (List AV)) (z d:Int) (b b1:Bool) (i:Int) (s:ByteArray) (i1 i2:Int) (p m:List (List AV)) (a0 z' e a d':Int):KT:=KT.round Pg cfg0 rs0 kc5 (k1A l z d b b1 i s i1 i2) (zkS 66 [(0,zkP),(1,vB b),(2,vB b1),(8,vI a0),(9,.slice 1 p .yes)] [] [zk1 m z' e a d'] 1)
theorem v1g (l z d) (b b1:Bool) (i) (s:ByteArray) (i1 i2 p m a0 z' e a d'):KT.round Pg cfg0 rs0 kc5 (k1A l z d b b1 i s i1 i2) (zkS 66 [(0,zkP),(1,vB b),(2,vB b1),(8,vI a0),(9,.slice 1 p .yes)] [] [zk1 m z' e a d'] 1)=
 zk5 a1l [zkP,vI 1] [zk1 m z' e a d'] (fun b2=>.stage (zk5 a1l [zkP,vI 2] [zk1 m z' e a d'] (fun b3=>.branch (!b3) (.branch b2 (.branch (!b) (.branch ((↑m.length:Int)==0) (.need true (.need true (.out (.out (.need true (.ret (zkQ zkF0 [zk28 m z' z' d']))))))) (.exI fun i3=>.exS fun s1=>zkI2 fun i4 i5=>.row m 0 (zk9 i3 s1 i4 i5) (.need true (.need true (.out (.out (.need true (.ret (zkQ zkF0 [zk28 m z' i5 d']))))))))) (.done (zkS 66 [(0,zkP),(1,vB b),(2,vB b1),(8,vI a0),(9,.slice 1 p .yes),(10,vB b2)] [] [zk1 m z' e a d'] 1))) (.branch ((↑m.length:Int)==0) (.need true (.need true (.out (.out (.need true (.ret (zkQ zkF0 [zk28 m z' z' d']))))))) (.exI fun i3=>.exS fun s1=>zkI2 fun i4 i5=>.row m 0 (zk9 i3 s1 i4 i5) (.need true (.need true (.out (.out (.need true (.ret (zkQ zkF0 [zk28 m z' i5 d'])))))))))) (.done (zkS 66 [(0,zkP),(1,vB b),(2,vB b1),(8,vI a0),(9,.slice 1 p .yes),(10,vB b2)] [] [zk1 m z' e a d'] 1)))) (((q1d l z d b b1 i s i1 i2 p m a0 z' e a d').B b2).T.K)):=by kernel_rfl
@[irreducible] noncomputable def q1e (l:List (List AV)) (z d:Int) (b b1:Bool) (i:Int) (s:ByteArray) (i1 i2:Int) (p m:List (List AV)) (a0 z' e a d':Int) (b2:Bool):KT:=((q1d l z d b b1 i s i1 i2 p m a0 z' e a d').B b2).T.K (zkS 66 [(0,zkP),(1,vB b),(2,vB b1),(8,vI a0),(9,.slice 1 p .yes),(10,vB b2)] [] [zk1 m z' e a d'] 1)
theorem q1N (l z d) (b b1:Bool) (i) (s:ByteArray) (i1 i2 p m a0 z' e a d') (b2:Bool):((q1d l z d b b1 i s i1 i2 p m a0 z' e a d').B b2).T.K (zkS 66 [(0,zkP),(1,vB b),(2,vB b1),(8,vI a0),(9,.slice 1 p .yes),(10,vB b2)] [] [zk1 m z' e a d'] 1)=
 .exI fun i3=>.exS fun s1=>zkI2 fun i4 i5=>.row m 0 (zk9 i3 s1 i4 i5) (.need ((p.length+1).ble 2147483648) (.need (decide ((m=[]∨(fun x=>x.size) Pg.types[e1y]=4)∧(0:Int)≤1∧1≤(↑m.length:Int)∧(↑m.length:Int)≤(↑m.length:Int))) (.stage (.branch (decide ((↑(p++List.map (fun x=>List.map AV.dis x) [[a1D Pg b1T (AV.val (Value.string s1)).dis]]).length:Int)>8)) (.need true (.out (.out (.need true (.ret (zkQ zkF0 [[zkN 4 (List.drop (Int.toNat 1) m),vI z',vI 3,vI a0,vI d']])))))) (.done (zkS 66 [(0,zkP),(1,vB b),(2,vB b1),(8,vI a0),(9,.slice 1 (p++List.map (fun x=>List.map AV.dis x) [[a1D Pg b1T (AV.val (Value.string s1)).dis]]) .yes),(10,vB b2)] [] [zk1 (List.drop (Int.toNat 1) m) z' e a d'] 1))) ((((((q1e l z d b b1 i s i1 i2 p m a0 z' e a d' b2).I i3).S s1).I i4).I i5).T.T.T.K)))):=by kernel_rfl
theorem q1O (l z d) (b b1:Bool) (i) (s:ByteArray) (i1 i2 p m a0 z' e a d') (b2:Bool) (i3) (s1:ByteArray) (i4 i5):(((((q1e l z d b b1 i s i1 i2 p m a0 z' e a d' b2).I i3).S s1).I i4).I i5).T.T.T.K (zkS 66 [(0,zkP),(1,vB b),(2,vB b1),(8,vI a0),(9,.slice 1 (p++List.map (fun x=>List.map AV.dis x) [[a1D Pg b1T (AV.val (Value.string s1)).dis]]) .yes),(10,vB b2)] [] [zk1 (List.drop (Int.toNat 1) m) z' e a d'] 1)=
 .branch b2 (.out (.need true (.ret (zkR (.tuple [zkN 1 (p++List.map (fun x=>List.map AV.dis x) [[a1D Pg b1T (AV.val (Value.string s1)).dis]]),vB b2]) [zk1 (List.drop (Int.toNat 1) m) z' e a d'])))) (.branch b1 (zk5 a1r [zkP,vS y1Z] [zk1 (List.drop (Int.toNat 1) m) z' e a d'] (fun b3=>.branch (!b3) (.out (.need true (.ret (zkR (.tuple [zkN 1 (p++List.map (fun x=>List.map AV.dis x) [[a1D Pg b1T (AV.val (Value.string s1)).dis]]),vB b2]) [zk1 (List.drop (Int.toNat 1) m) z' e a d'])))) (zk31 a1f [zkP,vS y1Z] [zk1 (List.drop (Int.toNat 1) m) z' e a d'] (fun l1 i6 i7 i8 i9=>.done (zkS 66 [(0,zkP),(1,vB b),(2,vB b1),(8,vI a0),(9,.slice 1 (p++List.map (fun x=>List.map AV.dis x) [[a1D Pg b1T (AV.val (Value.string s1)).dis]]) .yes)] [] [zk1 l1 i6 i7 i8 i9] 1)) (fun l1 i6 i7 i8 i9=>.out (.need true (.ret (zkQ zkF0 [zk1 l1 i6 i7 i8 i9]))))))) (zk31 a1f [zkP,vS y1Z] [zk1 (List.drop (Int.toNat 1) m) z' e a d'] (fun l1 i6 i7 i8 i9=>.done (zkS 66 [(0,zkP),(1,vB b),(2,vB b1),(8,vI a0),(9,.slice 1 (p++List.map (fun x=>List.map AV.dis x) [[a1D Pg b1T (AV.val (Value.string s1)).dis]]) .yes)] [] [zk1 l1 i6 i7 i8 i9] 1)) (fun l1 i6 i7 i8 i9=>.out (.need true (.ret (zkQ zkF0 [zk1 l1 i6 i7 i8 i9])))))):=by kernel_rfl
end Go.Proofs
end

section
/- PARSE: the program's reader: Is, of, Take, Need, taken -/
set_option linter.unusedVariables false
set_option linter.unusedSimpArgs false
set_option maxRecDepth 100000
open Go Go.Eng Go.Pa
open Go.Lx (T Tok)
namespace Go.Proofs
theorem x1J {f:FuncId} {args:List AV} {H:Heap} {r:CRes} (h:(kt5 f args H).wp Pg cfg0 evp [] (fun x=>x=r)):evp f args .none H=some r:=j2T h
theorem retH {x y:AV} {H:Heap} (h:x=y):(⟨.ret x,.none,H⟩:CRes)=⟨.ret y,.none,H⟩:=by rw[h]
theorem kq (a b:Nat):((a:Int)==(b:Int))=(a==b):=by
 rw[Bool.eq_iff_iff,beq_iff_eq,beq_iff_eq];omega
theorem f2e:((fun x=>x.size) Pg.types[e1y]:Nat)=4:=by kernel_rfl
theorem cut1 {t:Tok} {r:List Tok}:decide ((tks (t::r)=[]∨(fun x=>x.size) Pg.types[e1y]=4)∧(0:Int)≤1∧1≤((tks (t::r)).length:Int)∧((tks (t::r)).length:Int)≤((tks (t::r)).length:Int))=true:=
 decide_eq_true ⟨.inr f2e,by decide,by simp;omega,Int.le_refl _⟩
theorem row0 {t:Tok} {r:List Tok}:(0:Int)≤0∧(tks (t::r))[(0:Int).toNat]? =some [vI t.kind,vS ⟨t.text.toArray⟩,vI t.n,vI t.at_]:=⟨Int.le_refl _,rfl⟩
theorem b1d (n:Nat):∀l:List Tok,lowss n (tks l)=true
 |[]=>rfl
 |t::l=>by simp only[tks,List.map_cons,lowss,b1d n l];rfl
theorem c2h (ρ:Nat→Nat):∀l:List Tok,k1F ρ (tks l)=tks l
 |[]=>rfl
 |t::l=>by simp only[tks,List.map_cons,k1F,c2h ρ l];rfl
theorem inv5 (l:List Tok) (z e p d:Int):Inv1 (hp5 (tks l) z e p d):=fun k=>by
 simp only[hp5,List.map_cons,List.map_nil,AV.ren,c2h];rfl
theorem w1m {f:FuncId} {args:List AV} {o:Out} {m m':List Tok} {z e p d z' e' p' d':Int} {K:Heap} (h:evp f args .none [hp5 (tks m) z e p d]=some ⟨o,.none,[hp5 (tks m') z' e' p' d']⟩)
  (ha:Inv1 args) (ho:∀k,g1B (rho1 k) o=o) (hk:lowss (1+K.length) K=true):evp f args .none (hp5 (tks m) z e p d::K)=some ⟨o,.none,hp5 (tks m') z' e' p' d'::K⟩:=
 f2a u1K h ha (inv5 _ _ _ _ _) (inv5 _ _ _ _ _) ho hk
theorem w1n {d:Nat} (hB:d<BIG):IntKind.i64.wrap ((d:Int)+1)=((d+1:Nat):Int):=a1Z (by unfold BIG at hB;omega)
theorem w1o {d:Nat} (hB:d<BIG):IntKind.i64.wrap (((d+1:Nat):Int)-1)=(d:Int):=g1x (by unfold BIG at hB;omega)
theorem nf {p:Prop} (h:false=true):p:=by cases h
theorem tf {p:Prop} (h:true=false):p:=by cases h
theorem len0 {t:Tok} {r:List Tok} {p:Prop} (h:(((tks (t::r)).length:Int)==0)=true):p:=by simp at h;omega
theorem i1D (l:List Tok) (z d:Nat) (w:ByteArray):evp a1r [.ptr 0 0,vS w] .none (rH l z d)=some ⟨.ret (vB (isW (tx w) l)),.none,rH l z d⟩:=by
 refine x1J (a1j (f2t ..) (a1t (a1d nf fun _=>a1d (fun h=>absurd h (by decide)) fun _=>?_)))
 cases l with
 |nil=>exact a1d (fun _=>a1h ⟨rfl,a1d nf (fun _=>⟨rfl,rfl⟩)⟩) (fun h=>absurd h (by decide))
 |cons t r=>
  refine a1d len0 (fun _=>a1e (a1j (z1k ..) ⟨_,_,_,_,row0,rfl,a1d (fun _=>?_) tf⟩))
  have e3:((t.kind:Int)==3)=(t.kind==3):=kq _ 3
  have e6:((t.kind:Int)==6)=(t.kind==6):=kq _ 6
  rw[e3,e6]
  refine a1d (fun h=>⟨rfl,retH (congrArg vB ?_)⟩) (fun h=>a1d (fun h6=>⟨rfl,retH (congrArg vB ?_)⟩) (fun h6=>⟨rfl,retH (congrArg vB ?_)⟩))
  ·rw[n1B];simp [isW,h,tx]
  ·rw[n1B];simp [isW,h6,tx]
  ·simp [isW,h,h6]
theorem g1O (l:List Tok) (z d k:Nat):evp a1l [.ptr 0 0,vI (k:Int)] .none (rH l z d)=some ⟨.ret (vB (ofK k l)),.none,rH l z d⟩:=by
 refine x1J (a1j (f2u ..) (a1t (a1d nf fun _=>a1d (fun h=>absurd h (by decide)) fun _=>?_)))
 cases l with
 |nil=>exact a1d (fun _=>a1h ⟨rfl,a1d nf (fun _=>⟨rfl,rfl⟩)⟩) (fun h=>absurd h (by decide))
 |cons t r=>
  refine a1d len0 (fun _=>a1e (a1j (z1l ..) ⟨_,_,_,_,row0,rfl,a1d (fun _=>⟨rfl,retH (congrArg vB ?_)⟩) tf⟩))
  exact kq _ _
theorem b1G (l:List Tok) (z d:Nat) (w:ByteArray):evp a1g [.ptr 0 0,vS w] .none (rH l z d)=some ⟨.ret (vB (isW (tx w) l)),.none,rH (if isW (tx w) l then l.tail else l) z d⟩:=by
 refine x1J (a1j (z1m ..) ⟨_,i1D l z d w,?_⟩)
 cases hb:isW (tx w) l with
 |false=>exact a1d (fun _=>⟨rfl,rfl⟩) tf
 |true=>
  cases l with
  |nil=>cases hb
  |cons t r=>exact a1d nf (fun _=>⟨cut1,rfl,rfl⟩)
theorem c1n {l:List Tok} {z d:Nat} {w:ByteArray} (hg:Gd l) (hd:0<d) (hB:d<BIG):RC j2s (need z (tx w) l) z d a1f [.ptr 0 0,vS w] (rH l z d):=by
 have h1:=w1n hB
 have h2:=w1o hB
 refine i1C (a1j (z1n ..) (a1t (a1d nf fun _=>a1d (fun h=>absurd h (by decide)) fun _=>a1e (a1j (u1V ..) ?_))))
 have c:=w1m (K:=[[vB false]]) (b1G l z (d+1) w) (fun _=>rfl) (fun _=>rfl) rfl
 rw[h1]
 have hpos:decide (IntKind.i64.wrap (((d+1:Nat):Int)-1)>0)=true:=by rw[h2];exact decide_eq_true (by omega)
 cases hb:isW (tx w) l with
 |true=>
  rw[hb] at c
  refine⟨true,_,_,_,_,_,_,c,a1d nf fun _=>⟨rfl,a1d (fun _=>⟨b1d ..,rfl,?_⟩) tf⟩⟩
  rw[h2];exact c1i (by unfold need;rw[if_pos hb];rfl) hg.tail rfl
 |false=>
  rw[hb] at c
  have hn:need z (tx w) l=.no 11 (pl z l):=by unfold need;rw[if_neg (by rw[hb];decide)]
  refine⟨false,_,_,_,_,_,_,c,a1d (fun _=>?_) tf⟩
  cases l with
  |nil=>
   refine a1d (fun _=>⟨rfl,rfl,rfl,a1d nf fun _=>a1d (fun _=>a1d (fun _=>⟨b1d 1 [],rfl,?_⟩) (fun h=>by rw[hpos] at h;cases h)) tf⟩) (fun h=>absurd h (by decide))
   rw[h2];exact b1o (l:=[]) hn (by decide)
  |cons t r=>
   refine a1d len0 (fun _=>⟨_,_,_,_,row0,rfl,rfl,rfl,a1d nf fun _=>a1d (fun _=>a1d (fun _=>⟨b1d ..,rfl,?_⟩) (fun h=>by rw[hpos] at h;cases h)) tf⟩)
   rw[h2];exact b1o hn (by decide)
theorem j1k {l:List Tok} {z d k:Nat} (hg:Gd l) (hd:0<d) (hB:d<BIG):RC strV (taken z k l) z d a1y [.ptr 0 0,vI (k:Int)] (rH l z d):=by
 have h1:=w1n hB
 have h2:=w1o hB
 refine i1C (a1j (w1r ..) (a1t (a1d nf fun _=>a1d (fun h=>absurd h (by decide)) fun _=>a1e (a1j (s1z ..) (a1t ?_)))))
 have c:=w1m (K:=[[vS ⟨#[]⟩]]) (g1O l z (d+1) k) (fun _=>rfl) (fun _=>rfl) rfl
 have hpos:decide (IntKind.i64.wrap (((d+1:Nat):Int)-1)>0)=true:=by rw[h2];exact decide_eq_true (by omega)
 rw[h1]
 refine⟨_,c,?_⟩
 cases l with
 |nil=>
  refine a1d (fun _=>a1d (fun _=>⟨rfl,rfl,a1h ⟨rfl,a1d nf fun _=>a1d (fun _=>a1d (fun _=>⟨b1d 1 [],rfl,?_⟩) (fun h=>by rw[hpos] at h;cases h)) tf⟩⟩) (fun h=>absurd h (by decide))) tf
  rw[h2];exact b1o (l:=[]) (p:=z) rfl (by decide)
 |cons t r=>
  cases hk:ofK k (t::r) with
  |false=>
   refine a1d (fun _=>a1d len0 (fun _=>⟨_,_,_,_,row0,rfl,rfl,a1h ⟨rfl,a1d nf fun _=>a1d (fun _=>a1d (fun _=>⟨b1d ..,rfl,?_⟩) (fun h=>by rw[hpos] at h;cases h)) tf⟩⟩)) tf
   have hk2:(t.kind==k)=false:=hk
   rw[h2];exact b1o (p:=t.at_) (by simp only[taken,hk2,Bool.false_eq_true,if_false]) (by decide)
  |true=>
   have hk2:(t.kind==k)=true:=hk
   have e:=s1A (tks (t::r)) z d k
   rw[h1] at e
   refine a1d nf (fun _=>a1e (a1j e ⟨_,_,_,_,row0,cut1,rfl,a1d (fun _=>⟨b1d 1 r,rfl,?_⟩) tf⟩))
   rw[h2];exact c1i (a:=t.text) (l:=r) (by simp only[taken,hk2,if_true]) hg.cons.2 rfl
end Go.Proofs
end

section
/- PARSE: the program's reader: path, Path -/
set_option linter.unusedVariables false
set_option linter.unusedSimpArgs false
set_option maxRecDepth 100000
open Go Go.Eng Go.Pa
open Go.Lx (T Tok)
namespace Go.Proofs
abbrev c1o (p:List T):List (List AV):=p.map fun t=>[vS (bs t)]
def pY:List T→AV
 |[]=>.slice 0 [] .full
 |t::p=>.slice 1 (c1o (t::p)) .yes
theorem f2f {z:Nat} {a b:Bool} {s:Nat} {p:List T}:path z a b s p []=.no 11 z:=by rw[path]
theorem m1b {z:Nat} {a b:Bool} {s:Nat} {p:List T} {t:Tok} {l:List Tok}:path z a b s p (t::l)=
  if t.kind==2||(t.kind==1&&a) then
   if 8<p.length+1 then .no 3 s
   else if t.kind==1 then .ok (p++[t.text],true) l
   else match l with
    |[]=>if b then .ok (p++[t.text],false) [] else .no 11 z
    |d::l'=>if isW wDot [d] then path z a b s (p++[t.text]) l'
      else if b then .ok (p++[t.text],false) (d::l') else .no 11 d.at_
  else .no 11 t.at_:=by
 conv=>lhs;unfold path
 cases l<;>rfl
section
variable {QD:List (St→Prop)} {z d:Nat} {F:Res (List T×Bool)}
theorem u1O {b1 b2:Bool} {P:List (List AV)} {r:List Tok} {p':List T} {S:List (List AV)→Int→Int→Int→Int→St} {Q:St→Prop} (hd:0<d) (hB:d<BIG) (hP:P=c1o p')
  (hF:F=if b2 then .ok (p',true) r else match r with
    |[]=>if b1 then .ok (p',false) [] else .no 11 z
    |e::r'=>if isW wDot [e] then F else if b1 then .ok (p',false) (e::r') else .no 11 e.at_)
  (hQ:∀e r',b2=false→r=e::r'→isW wDot [e]=true→Q (S (tks r') z 0 0 d)) (hg:Gd r):
  (KT.branch b2 (.out (.need true (.ret ⟨.ret (.tuple [.slice 1 P .no,vB b2]),.none,rH r z d⟩)))
   (.branch b1
    (.exB fun b3=>.call a1r [.ptr 0 0,vS ⟨#[46]⟩] .none (rH r z d) ⟨.ret (vB b3),.none,rH r z d⟩
     (.branch (!b3) (.out (.need true (.ret ⟨.ret (.tuple [.slice 1 P .no,vB b2]),.none,rH r z d⟩)))
      (.alt (.exR fun m=>.exI fun a=>.exI fun e=>.exI fun p=>.exI fun d'=>.call a1f [.ptr 0 0,vS ⟨#[46]⟩] .none (rH r z d) ⟨.ret (.tuple []),.none,[hp5 m a e p d']⟩ (.done (S m a e p d')))
       (.exR fun m=>.exI fun a=>.exI fun e=>.exI fun p=>.exI fun d'=>.call a1f [.ptr 0 0,vS ⟨#[46]⟩] .none (rH r z d) ⟨.panic g1N,.none,[hp5 m a e p d']⟩ (.out (.need true (.ret ⟨.panic g1N,.none,[hp5 m a e p d']⟩)))))))
    (.alt (.exR fun m=>.exI fun a=>.exI fun e=>.exI fun p=>.exI fun d'=>.call a1f [.ptr 0 0,vS ⟨#[46]⟩] .none (rH r z d) ⟨.ret (.tuple []),.none,[hp5 m a e p d']⟩ (.done (S m a e p d')))
       (.exR fun m=>.exI fun a=>.exI fun e=>.exI fun p=>.exI fun d'=>.call a1f [.ptr 0 0,vS ⟨#[46]⟩] .none (rH r z d) ⟨.panic g1N,.none,[hp5 m a e p d']⟩ (.out (.need true (.ret ⟨.panic g1N,.none,[hp5 m a e p d']⟩))))))).wp Pg cfg0 evp (Q::QD) (Rq u1L F z d):=by
 subst hP
 have key:∀b,b2=false→(b=false∨isW wDot r=true)→b1=b∨isW wDot r=true→(KT.alt (.exR fun m=>.exI fun a=>.exI fun e=>.exI fun p=>.exI fun d'=>.call a1f [.ptr 0 0,vS ⟨#[46]⟩] .none (rH r z d) ⟨.ret (.tuple []),.none,[hp5 m a e p d']⟩ (.done (S m a e p d')))
       (.exR fun m=>.exI fun a=>.exI fun e=>.exI fun p=>.exI fun d'=>.call a1f [.ptr 0 0,vS ⟨#[46]⟩] .none (rH r z d) ⟨.panic g1N,.none,[hp5 m a e p d']⟩ (.out (.need true (.ret ⟨.panic g1N,.none,[hp5 m a e p d']⟩))))).wp Pg cfg0 evp (Q::QD) (Rq u1L F z d):=by
  intro b h2 hb hb1
  refine c1V (c1n hg hd hB) (fun u l hn _=>?_) (fun e p l hn he=>a1h ⟨rfl,b1o ?_ he⟩)
  ·cases r with
   |nil=>cases hn
   |cons e r'=>
    have hw:isW wDot [e]=true:=by
     cases hw:isW wDot [e] with
     |true=>rfl
     |false=>
      have hw2:isW (tx ⟨#[46]⟩) (e::r')=false:=hw
      unfold need at hn;rw[hw2] at hn;cases hn
    have hw2:isW (tx ⟨#[46]⟩) (e::r')=true:=hw
    unfold need at hn
    rw[if_pos hw2] at hn
    injection hn with _ hn
    subst hn
    exact a1e (hQ e r' h2 rfl hw)
  ·rw[h2] at hF
   cases r with
   |nil=>
    have e1:need z (tx ⟨#[46]⟩) []=.no 11 z:=rfl
    rw[e1] at hn
    injection hn with n1 n2
    subst n1 n2
    rcases hb with hb|hb
    ·rcases hb1 with h|h
     ·rw[h,hb] at hF;exact hF
     ·cases h
    ·cases hb
   |cons e' r'=>
    cases hw:isW wDot [e'] with
    |true=>
     have hw2:isW (tx ⟨#[46]⟩) (e'::r')=true:=hw
     unfold need at hn;rw[hw2] at hn;cases hn
    |false=>
     have hw2:isW (tx ⟨#[46]⟩) (e'::r')=false:=hw
     have hw3:isW wDot (e'::r')=false:=hw
     unfold need at hn
     rw[hw2] at hn
     injection hn with n1 n2
     subst n1 n2
     rcases hb with hb|hb
     ·rcases hb1 with h|h
      ·rw[h,hb] at hF;simp only[hw,Bool.false_eq_true,if_false] at hF;exact hF
      ·rw[hw3] at h;cases h
     ·rw[hw3] at hb;cases hb
 refine a1d (fun h2=>?_) (fun h2=>a1d (fun h1=>?_) (fun h1=>key false h2 (.inl rfl) (.inl h1)))
 ·rw[h2,if_pos rfl] at hF
  exact a1h ⟨rfl,c1i hF hg (by rw[h2])⟩
 ·refine⟨_,i1D r z d _,a1d (fun hw=>?_) (fun hw=>?_)⟩
  ·have hw:isW (tx ⟨#[46]⟩) r=false:=by simpa using hw
   rw[h2] at hF
   refine a1h ⟨rfl,c1i (a:=(p',false)) ?_ hg (by rw[h2])⟩
   rw[hF]
   cases r with
   |nil=>simp only[h1,if_true,Bool.false_eq_true,if_false]
   |cons e r'=>
    have hw':isW wDot [e]=false:=hw
    simp only[h1,hw',if_true,Bool.false_eq_true,if_false]
  ·have hw:isW (tx ⟨#[46]⟩) r=true:=by simpa using hw
   exact key b1 h2 (.inr hw) (.inl rfl)
theorem p1G {b b1:Bool} {st:Nat} {p:List T} {m:List Tok} {s:Bool→St} {K:Bool→St→KT} {Q:St→Prop}
  (hF:F=path z b b1 st p m)
  (hgo:∀t r,m=t::r→(t.kind==2||(t.kind==1&&b))=true→(K (t.kind==1) (s (t.kind==1))).wp Pg cfg0 evp (Q::QD) (Rq u1L F z d)):
  (KT.exB fun b2=>.call a1l [.ptr 0 0,vI 1] .none (rH m z d) ⟨.ret (vB b2),.none,rH m z d⟩
   (.stage (.exB fun b3=>.call a1l [.ptr 0 0,vI 2] .none (rH m z d) ⟨.ret (vB b3),.none,rH m z d⟩
    (.branch (!b3)
     (.branch b2
      (.branch (!b)
       (.branch (((tks m).length:Int)==0)
        (.need true (.need true (.out (.out (.need true (.ret ⟨.panic g1N,.none,[hp5 (tks m) z 11 z d]⟩))))))
        (.exI fun i3=>.exS fun s1=>.exI fun i4=>.exI fun i5=>.row (tks m) 0 [vI i3,vS s1,vI i4,vI i5]
         (.need true (.need true (.out (.out (.need true (.ret ⟨.panic g1N,.none,[hp5 (tks m) z 11 i5 d]⟩))))))))
       (.done (s b2)))
      (.branch (((tks m).length:Int)==0)
       (.need true (.need true (.out (.out (.need true (.ret ⟨.panic g1N,.none,[hp5 (tks m) z 11 z d]⟩))))))
       (.exI fun i3=>.exS fun s1=>.exI fun i4=>.exI fun i5=>.row (tks m) 0 [vI i3,vS s1,vI i4,vI i5]
        (.need true (.need true (.out (.out (.need true (.ret ⟨.panic g1N,.none,[hp5 (tks m) z 11 i5 d]⟩)))))))))
     (.done (s b2)))) (K b2))).wp Pg cfg0 evp (Q::QD) (Rq u1L F z d):=by
 cases m with
 |nil=>
  rw[f2f] at hF
  exact⟨_,g1O [] z d 1,a1t ⟨_,g1O [] z d 2,a1d (fun _=>a1d nf fun _=>a1d (fun _=>⟨rfl,rfl,a1h (a1h ⟨rfl,b1o (l:=[]) hF (by decide)⟩)⟩) (fun h=>absurd h (by decide))) tf⟩⟩
 |cons t r=>
  have h2:ofK 2 (t::r)=(t.kind==2):=rfl
  have h1:ofK 1 (t::r)=(t.kind==1):=rfl
  have hfail:(t.kind==2||(t.kind==1&&b))=false→Rq u1L F z d ⟨.panic g1N,.none,[hp5 (tks (t::r)) z 11 t.at_ d]⟩:=fun hc=>by
   refine b1o (e:=11) ?_ (by decide)
   rw[hF,m1b,hc];rfl
  refine⟨_,g1O (t::r) z d 1,a1t ⟨_,g1O (t::r) z d 2,a1d (fun hk2=>?_) (fun hk2=>?_)⟩⟩
  ·have hk2:(t.kind==2)=false:=by rw[←h2];simpa using hk2
   refine a1d (fun hk1=>a1d (fun hb=>?_) (fun hb=>?_)) (fun hk1=>?_)
   ·have hb:b=false:=by simpa using hb
    exact a1d len0 (fun _=>⟨_,_,_,_,row0,rfl,rfl,a1h (a1h ⟨rfl,hfail (by rw[hk2,hb];simp)⟩)⟩)
   ·have hb:b=true:=by simpa using hb
    rw[h1] at hk1
    exact a1e (hgo t r rfl (by rw[hk1,hb];simp))
   ·rw[h1] at hk1
    exact a1d len0 (fun _=>⟨_,_,_,_,row0,rfl,rfl,a1h (a1h ⟨rfl,hfail (by rw[hk2,hk1];simp)⟩)⟩)
  ·have hk2:(t.kind==2)=true:=by rw[←h2];simpa using hk2
   exact a1e (hgo t r rfl (by rw[hk2];rfl))
end
theorem p1H {l:List Tok} {z d:Nat} {b b1:Bool} (hg:Gd l) (hd:0<d) (hB:d<BIG):RC u1L (path z b b1 (pl z l) [] l) z d a1C [.ptr 0 0,vB b,vB b1] (rH l z d):=by
 cases l with
 |nil=>
  refine i1C (a1j (r1F ..) (a1d (fun _=>⟨rfl,?_⟩) (fun h=>absurd h (by decide))))
  have hY:(m1U (tks []) z d b b1).T.T=o1u (tks []) z d b b1:=by delta m1U o1u;rfl
  refine a1j hY (l1r (fun _:Unit=>⟨tm2 66 [(0,(.ptr 0 0)),(1,(vB (b))),(2,(vB (b1))),(8,(vI (z))),(9,(.slice 0 [] .full))],lm2 66 [],⟨[hp5 (tks []) z 0 0 d],[],.none,1⟩⟩) (fun _=>True) (fun _=>0) () (by kernel_rfl) trivial ?_)
  intro _ _
  exact a1j (v1e ..) (p1G (m:=[]) (p:=[]) (b:=b) (b1:=b1) (st:=z) rfl (fun t r h=>by cases h))
 |cons t0 l0=>
  refine i1C (a1j (r1F ..) (a1d len0 (fun _=>⟨_,_,_,_,row0,rfl,?_⟩)))
  have hY:(((((m1U (tks (t0::l0)) z d b b1).F.I t0.kind).S ⟨t0.text.toArray⟩).I t0.n).I t0.at_).T.T=k1A (tks (t0::l0)) z d b b1 t0.kind ⟨t0.text.toArray⟩ t0.n t0.at_:=by delta m1U k1A;rfl
  generalize hFF:path z b b1 (pl z (t0::l0)) [] (t0::l0)=F
  refine a1j hY (l1r (fun x:List T×List Tok=>⟨tm2 66 [(0,(.ptr 0 0)),(1,(vB (b))),(2,(vB (b1))),(8,(vI t0.at_)),(9,pY x.1)],lm2 66 [],⟨[hp5 (tks x.2) z 0 0 d],[],.none,1⟩⟩)
   (fun x=>F=path z b b1 t0.at_ x.1 x.2∧x.1.length≤8∧Gd x.2) (fun x=>x.2.length) ([],t0::l0) (by kernel_rfl) ⟨hFF.symm,Nat.zero_le _,hg⟩ ?_)
  rintro ⟨p,m⟩ ⟨hF,hp,hgm⟩
  simp only at hF hp hgm
  have go:∀t r,m=t::r→(t.kind==2||(t.kind==1&&b))=true→¬8<p.length+1→
    F=if (t.kind==1) then .ok (p++[t.text],true) r else match r with
    |[]=>if b1 then .ok (p++[t.text],false) [] else .no 11 z
    |e::r'=>if isW wDot [e] then F else if b1 then .ok (p++[t.text],false) (e::r') else .no 11 e.at_:=by
   intro t r hm hc h8
   subst hm
   rw[m1b,if_pos hc,if_neg h8] at hF
   rw[hF]
   split
   ·rfl
   ·cases r with
    |nil=>rfl
    |cons e r'=>simp only;split<;>rfl
  have nxt:∀t r,m=t::r→(t.kind==2||(t.kind==1&&b))=true→¬8<p.length+1→∀e r',(t.kind==1)=false→r=e::r'→isW wDot [e]=true→F=path z b b1 t0.at_ (p++[t.text]) r':=by
   intro t r hm hc h8 e r' hk hr hw
   subst hm hr
   rw[m1b,if_pos hc,if_neg h8,if_neg (by rw[hk];decide)] at hF
   simp only[hw,if_true] at hF
   exact hF
  cases p with
  |nil=>
   refine a1j (v1f ..) (p1G hF fun t r hm hc=>?_)
   subst hm
   have h8:¬8<([]:List T).length+1:=by simp
   refine a1j (q1L ..) ⟨_,_,_,_,row0,rfl,cut1,a1t (a1d (fun h=>absurd (of_decide_eq_true h) (by simp)) (fun _=>a1e (a1j (q1M ..) ?_)))⟩
   exact u1O (p':=[t.text]) (hg:=hgm.cons.2) hd hB rfl (go t r rfl hc h8) (fun e r' hk hr hw=>⟨([t.text],r'),⟨⟨nxt t r rfl hc h8 e r' hk hr hw,by simp,by subst hr;exact hgm.cons.2.cons.2⟩,by subst hr;simp;omega⟩,rfl⟩)
  |cons p0 p=>
   refine a1j (v1g (p:=c1o (p0::p)) ..) (p1G hF fun t r hm hc=>?_)
   subst hm
   refine a1j (q1N ..) ⟨_,_,_,_,row0,by rw[Nat.ble_eq];simp at hp⊢;omega,cut1,a1t (a1d (fun h=>?_) (fun h=>a1e (a1j (q1O ..) ?_)))⟩
   ·have h:=of_decide_eq_true h
    simp only[List.length_append,List.length_map,List.length_cons,List.length_nil] at h
    refine⟨rfl,a1h (a1h ⟨rfl,b1o (l:=r) (e:=3) ?_ (by decide)⟩)⟩
    rw[hF,m1b,if_pos hc,if_pos (by simp only[List.length_cons];omega)]
   ·have h:=of_decide_eq_false h
    simp only[List.length_append,List.length_map,List.length_cons,List.length_nil] at h
    have h8:¬8<(p0::p).length+1:=by simp only[List.length_cons];omega
    exact u1O (p':=(p0::p)++[t.text]) (hg:=hgm.cons.2) hd hB (by simp only[c1o,List.map_append];rfl) (go t r rfl hc h8) (fun e r' hk hr hw=>⟨((p0::p)++[t.text],r'),⟨⟨nxt t r rfl hc h8 e r' hk hr hw,by simp;omega,by subst hr;exact hgm.cons.2.cons.2⟩,by subst hr;simp;omega⟩,by
     simp only[pY,List.cons_append,c1o,List.map_cons,List.map_append];rfl⟩)
end Go.Proofs
end

section
/- PARSE: the program's reader: Path; types -/
set_option linter.unusedVariables false
set_option linter.unusedSimpArgs false
set_option maxRecDepth 100000
open Go Go.Eng Go.Pa
open Go.Lx (T Tok)
namespace Go.Proofs
theorem d1B {α:Type} {v:α→AV} {F:Res α} {z d:Nat} {g:FuncId} {args:List AV} {l:List Tok} {K:Heap} (c:RC v F z d g args (rH l z d)) (ha:Inv1 args) (hv:∀a k,(v a).ren (rho1 k)=v a) (hk:lowss (1+K.length) K=true):
  (∃a m,F=.ok a m∧Gd m∧evp g args .none (hp5 (tks l) z 0 0 d::K)=some ⟨.ret (v a),.none,hp5 (tks m) z 0 0 d::K⟩)∨(∃(e p:Nat) (m:List Tok),F=.no e p∧e≠0∧evp g args .none (hp5 (tks l) z 0 0 d::K)=some ⟨.panic g1N,.none,hp5 (tks m) z e p d::K⟩):=by
 obtain⟨r,h1,h2⟩:=c
 cases hF:F with
 |ok a m=>
  rw[hF] at h2
  obtain⟨hg,rfl⟩:=h2
  exact .inl ⟨a,m,rfl,hg,w1m h1 ha (fun k=>by simp only[g1B,hv]) hk⟩
 |no e p=>
  rw[hF] at h2
  obtain⟨he,m,rfl⟩:=h2
  exact .inr ⟨e,p,m,rfl,he,w1m h1 ha (fun k=>rfl) hk⟩
theorem g1U (n:Nat) (p:List T):lowss n (c1o p)=true:=by
 have:=o1e n (p.map fun t=>[cs t])
 rwa [h1m] at this
theorem c2i (ρ:Nat→Nat) (p:List T):k1F ρ (c1o p)=c1o p:=by
 have:=s1f ρ (p.map fun t=>[cs t])
 rwa [h1m] at this
theorem f1Z:Inv1 [.ptr 0 0]:=fun _=>rfl
theorem c2j {b b1:Bool}:Inv1 [.ptr 0 0,vB b,vB b1]:=fun _=>rfl
theorem h2E {l:List Tok} {z d:Nat} {b:Bool} (hg:Gd l) (hd:0<d) (hB:d+1<BIG):RC f2b ((path z b (!b) (pl z l) [] l).bind fun x r=>.ok x.1 r) z d b1B [.ptr 0 0,vB b] (rH l z d):=by
 have h1:=w1n (d:=d) (by omega)
 have h2:=w1o (d:=d) (by omega)
 have hpos:decide (IntKind.i64.wrap (((d+1:Nat):Int)-1)>0)=true:=by rw[h2];exact decide_eq_true (by omega)
 refine i1C (a1j (z1p ..) (a1t (a1d nf fun _=>a1d (fun h=>absurd h (by decide)) fun _=>a1e (a1j (u1X ..) ?_))))
 rw[h1]
 rcases d1B (K:=[[.slice 0 [] .full]]) (p1H (b:=b) (b1:= !b) (z:=z) hg (Nat.succ_pos d) hB) c2j (fun a k=>by simp only[u1L,f2b,AV.ren,rens,c2i];rfl) rfl with ⟨x,m,hF,hgm,c⟩|⟨e,p,m,hF,he,c⟩
 ·refine .inl ⟨_,_,_,_,_,_,_,[],c,rfl,a1d (fun _=>⟨g1U ..,b1d ..,rfl,?_⟩) tf⟩
  rw[h2];exact c1i (a:=x.1) (by rw[hF];rfl) hgm rfl
 ·refine .inr ⟨_,_,_,_,_,[],c,rfl,a1d nf fun _=>a1d (fun _=>a1d (fun _=>⟨b1d ..,rfl,?_⟩) (fun h=>by rw[hpos] at h;cases h)) tf⟩
  rw[h2];exact b1o (by rw[hF];rfl) he
theorem r1A (n:Nat) (t:Ty):lowss n (tyP t)=true∧lowss n (tyQ t)=true:=by
 have:=s1e n t.row
 rw[g1s] at this
 simp only[lows,AV.low,Bool.and_eq_true] at this
 exact⟨this.2.2.1,this.2.2.2.1⟩
theorem s1x (ρ:Nat→Nat) (t:Ty):(tyV t).ren ρ=tyV t:=by
 simp only[tyV,AV.ren,k1c]
theorem k1O (t:Ty): .agg [vI (tyK t),vS (tyN t),.slice 1 (tyP t) .no,.slice 4 (tyQ t) .no]=tyV t:=by rw[tyV,g1s]
def Rm {α:Type} (v:α→AV) (v0:AV) (F:Res α) (z d:Nat) (r:CRes):Prop:=
 match F with
 | .ok a l=>Gd l∧r=⟨.ret (v a),.none,rH l z d⟩
 | .no e p=>e≠0∧∃l:List Tok,r=if d=0 then ⟨.ret v0,.none,rB (tks l) z e p d⟩ else ⟨.panic g1N,.none,rB (tks l) z e p d⟩
def RM' {α:Type} (v:α→AV) (v0:AV) (F:Res α) (z d:Nat) (g:FuncId) (args:List AV) (H:Heap):Prop:=∃r,evp g args .none H=some r∧Rm v v0 F z d r
theorem c1Y {α:Type} {v:α→AV} {v0:AV} {F:Res α} {z d:Nat} {g:FuncId} {args:List AV} {H:Heap} (hd:0<d) (h:RM' v v0 F z d g args H):RC v F z d g args H:=by
 obtain⟨r,h1,h2⟩:=h
 refine⟨r,h1,?_⟩
 cases F with
 |ok a l=>exact h2
 |no e p=>
  obtain⟨he,l,h3⟩:=h2
  rw[if_neg (by omega)] at h3
  exact⟨he,l,h3⟩
theorem f2g {α:Type} {v:α→AV} {v0:AV} {F:Res α} {z d:Nat} {a:α} {l:List Tok} {x:AV} (h:F=.ok a l) (hg:Gd l) (hx:x=v a):Rm v v0 F z d ⟨.ret x,.none,rH l z d⟩:=by
 subst h hx;exact⟨hg,rfl⟩
theorem f2h {α:Type} {v:α→AV} {v0:AV} {F:Res α} {z d e p:Nat} {l:List Tok} (hd:¬d=0) (h:F=.no e p) (he:e≠0):Rm v v0 F z d ⟨.panic g1N,.none,rB (tks l) z e p d⟩:=by
 subst h;exact⟨he,l,by rw[if_neg hd]⟩
theorem x1K {α:Type} {v:α→AV} {v0:AV} {F:Res α} {z d e p:Nat} {l:List Tok} (hd:d=0) (h:F=.no e p) (he:e≠0):Rm v v0 F z d ⟨.ret v0,.none,rB (tks l) z e p d⟩:=by
 subst h;exact⟨he,l,by rw[if_pos hd]⟩
theorem x1L {d:Nat}:decide ((d:Int)>0)=true→¬d=0:=fun h=>by have:=of_decide_eq_true h;omega
theorem dec0 {d:Nat}:decide ((d:Int)>0)=false→d=0:=fun h=>by have:=of_decide_eq_false h;omega
abbrev ty0:AV:=.agg [vI 0,vS ⟨#[]⟩,.slice 1 [] .no,.slice 4 [] .no]
structure PT (z n:Nat):Prop where
 ty:∀{l:List Tok} {d:Nat},Gd l→0<d→8*l.length+3≤n→d+n<BIG→RC tyV (pTy z n l) z d b1l [.ptr 0 0] (rH l z d)
 pair:∀{l:List Tok} {d:Nat},Gd l→0<d→8*l.length+2≤n→d+n<BIG→RC tyV (h1g z n l) z d b1m [.ptr 0 0] (rH l z d)
 aty:∀{l:List Tok} {d:Nat},Gd l→0<d→8*l.length+1≤n→d+n<BIG→RC tyV (pAty z n l) z d b1j [.ptr 0 0] (rH l z d)
theorem f2i {z d:Nat} {l:List Tok} {F:Res Ty} (hB:d<BIG) (c:RC tyV F z (d+1) b1l [.ptr 0 0] (rH l z (d+1))):RM' tyV ty0 F z d a1o [.ptr 0 0] (rH l z d):=by
 have h1:=w1n hB
 have h2:=w1o hB
 refine x1H (a1j (f2v ..) (a1t (a1d nf fun _=>a1d (fun h=>absurd h (by decide)) fun _=>a1e (a1j (z1o ..) ?_))))
 rw[h1]
 rcases d1B (K:=[[vI 0,vS ⟨#[]⟩,.slice 0 [] .full,.slice 0 [] .full]]) c f1Z (fun a k=>s1x _ a) rfl with ⟨t,m,hF,hg,c⟩|⟨e,p,m,hF,he,c⟩
 ·simp only[tyV,g1s] at c
  refine .inl ⟨_,_,_,_,_,_,_,_,_,_,_,[],[],c,a1d (fun _=>⟨(r1A 1 t).1,(r1A 1 t).2,b1d ..,rfl,?_⟩) tf⟩
  rw[h2];exact f2g hF hg (k1O t)
 ·refine .inr ⟨_,_,_,_,_,_,_,[],[],c,a1d nf fun _=>a1d (fun _=>a1d (fun h=>⟨b1d ..,rfl,?_⟩) (fun h=>⟨rfl,rfl,b1d ..,rfl,?_⟩)) tf⟩
  ·rw[h2] at h⊢;exact f2h (x1L h) hF he
  ·rw[h2] at h⊢;exact x1K (dec0 h) hF he
theorem PT.Ty {z n:Nat} (h:PT z n) {l:List Tok} {d:Nat} (hg:Gd l) (hn:8*l.length+3≤n) (hB:d+n+1<BIG):RM' tyV ty0 (pTy z n l) z d a1o [.ptr 0 0] (rH l z d):=
 f2i (by omega) (h.ty hg (Nat.succ_pos d) hn (by omega))
def c2k:Bool→Ty→List AV
 |false,t=>[vI (tyK t),vS (tyN t),.slice 1 (tyP t) .no,.slice 4 (tyQ t) .no]
 |true,t=>[vI 4,vS ⟨#[]⟩,.slice 0 [] .full,.slice 4 (tyQ t) .full]
theorem x1M (a b:Ty):tyQ (.pair a b)=[[vI (tyK a),vS (tyN a),.slice 1 (tyP a) .no,.slice 4 (tyQ a) .no],[vI (tyK b),vS (tyN b),.slice 1 (tyP b) .no,.slice 4 (tyQ b) .no]]:=by
 show [avs a.row,avs b.row]=_
 rw[g1s,g1s]
theorem u1P (z:Nat):∀n,PT z n:=by
 intro n
 induction n using Nat.strongRecOn with
 |ind n ih=>
 cases n with
 |zero=>exact⟨fun _ _ h=>by omega,fun _ _ h=>by omega,fun _ _ h=>by omega⟩
 |succ n=>
 have I:=ih n (Nat.lt_succ_self n)
 constructor
 ·
  intro l d hg hd hn hB
  refine i1C (a1j (f2w ..) (w1k (I.pair hg hd (by omega) (by omega)) (fun t r hF hg1=>?_) (fun e p r hF he=>⟨rfl,b1o (by rw[pTy,hF];rfl) he⟩)))
  have hl:=(lenT z n).pair hF
  refine l1j (b1G r z d _) (fun hw=>?_) (fun hw=>⟨rfl,c1i (a:=t) (l:=r) ?_ hg1 (k1O t)⟩)
  ·have hw1:isW x1y r=true:=hw
   have hl2:=b1k hw1
   refine w1k (c1Y hd (I.Ty hg1.tail (by omega) (by omega))) (fun u r2 hF2 hg2=>⟨rfl,c1i (a:=.fn t u) (l:=r2) ?_ hg2 ?_⟩) (fun e p r2 hF2 he=>⟨rfl,b1o ?_ he⟩)
   ·rw[pTy,hF];simp only[Res.bind,hw1,if_true,hF2]
   ·rw[←k1O,show tyQ (.fn t u)=[avs t.row,avs u.row] from rfl,g1s,g1s];rfl
   ·rw[pTy,hF];simp only[Res.bind,hw1,if_true,hF2]
  ·have hw1:isW x1y r=false:=hw
   rw[pTy,hF];simp only[Res.bind,hw1,Bool.false_eq_true,if_false]
 ·
  intro l d hg hd hn hB
  refine i1C (a1j (u1W ..) (w1k (I.aty hg hd (by omega) (by omega)) (fun t r hF hg1=>?_) (fun e p r hF he=>⟨rfl,b1o (by rw[h1g,hF];rfl) he⟩)))
  have hl:=(lenT z n).aty hF
  have hFF:h1g z (n+1) l=e1s z n t r:=by rw[h1g,hF];rfl
  rw[hFF]
  generalize hX:e1s z n t r=X
  have hY:((((((((((p1S (tks l) z d).T.I (tyK t)).S (tyN t)).R (tyP t)).R (tyQ t)).R (tks r)).I z).I 0).I 0).I d).T=m1h (tks l) z d (tyK t) (tyN t) (tyP t) (tyQ t) (tks r) z 0 0 d:=by delta p1S m1h;rfl
  refine a1j hY (l1r (fun x:Nat×Bool×Ty×List Tok=>⟨tm2 14 [(0,(.ptr 0 0)),(2,(.lp 2 0 0)),(3,(.lp 3 0 0))],lm2 14 [(2,(0,[(vI (0)),(vS ((⟨#[]⟩:ByteArray))),(.slice 0 [] .full),(.slice 0 [] .full)])),(3,(0,c2k x.2.1 x.2.2.1))],⟨[hp5 (tks x.2.2.2) z 0 0 d],[],.none,1⟩⟩)
   (fun x=>X=e1s z x.1 x.2.2.1 x.2.2.2∧8*x.2.2.2.length+1≤x.1∧x.1≤n∧Gd x.2.2.2∧(x.2.1=true→∃a b,x.2.2.1=.pair a b)) (fun x=>x.2.2.2.length) (n,false,t,r) (by kernel_rfl) ⟨hX.symm,by simp only;omega,Nat.le_refl _,hg1,fun h=>by cases h⟩ ?_)
  rintro ⟨k,fl,t,m⟩ ⟨hF,hk,hkn,hgm,hfl⟩
  simp only at hF hk hkn hgm hfl
  cases k with
  |zero=>omega
  |succ k=>
  have I2:=ih k (by omega)
  rw[e1s] at hF
  cases fl with
  |false=>
   refine a1j (s1F ..) (l1j (b1G m z d _) (fun hw=>?_) (fun hw=>a1h ⟨rfl,c1i (a:=t) (l:=m) ?_ hgm (k1O t)⟩))
   ·have hw1:isW n1W m=true:=hw
    have hl2:=b1k hw1
    rw[if_pos hw1] at hF
    refine w1k (I2.aty hgm.tail hd (by omega) (by omega)) (fun u r2 hF2 hg2=>?_) (fun e p r2 hF2 he=>a1h ⟨rfl,b1o (by rw[hF,hF2];rfl) he⟩)
    have hl3:=(lenT z k).aty hF2
    refine a1e ⟨(k,true,.pair t u,r2),⟨⟨by rw[hF,hF2];rfl,by simp only;omega,by simp only;omega,hg2,fun _=>⟨t,u,rfl⟩⟩,by simp only;omega⟩,?_⟩
    simp only[c2k,x1M]
   ·have hw1:isW n1W m=false:=hw
    rw[hF,if_neg (by rw[hw1];decide)]
  |true=>
   obtain⟨a,b,rfl⟩:=hfl rfl
   refine a1j (s1G (r1:=avs a.row) (r2:=avs b.row) ..) (l1j (b1G m z d _) (fun hw=>?_) (fun hw=>a1h ⟨rfl,c1i (a:=.pair a b) (l:=m) ?_ hgm ?_⟩))
   ·have hw1:isW n1W m=true:=hw
    have hl2:=b1k hw1
    rw[if_pos hw1] at hF
    refine w1k (I2.aty hgm.tail hd (by omega) (by omega)) (fun u r2 hF2 hg2=>?_) (fun e p r2 hF2 he=>a1h ⟨rfl,b1o (by rw[hF,hF2];rfl) he⟩)
    have hl3:=(lenT z k).aty hF2
    refine a1e ⟨(k,true,.pair (.pair a b) u,r2),⟨⟨by rw[hF,hF2];rfl,by simp only;omega,by simp only;omega,hg2,fun _=>⟨_,u,rfl⟩⟩,by simp only;omega⟩,?_⟩
    simp only[c2k]
    rw[x1M];rfl
   ·have hw1:isW n1W m=false:=hw
    rw[hF,if_neg (by rw[hw1];decide)]
   ·rfl
 ·
  intro l d hg hd hn hB
  generalize hX:pAty z (n+1) l=X
  rw[pAty] at hX
  refine i1C (a1j (c2u ..) ?_)
  have hY:c2t (tks l) z d=c2F (tks l) z d:=by delta c2t c2F;rfl
  refine a1j hY (l1r (fun i:Nat=>⟨tm2 35 [(0,(.ptr 0 0)),(2,(.lp 2 0 0)),(6,(.slice 1 [[(vS ((⟨#[105,110,116]⟩:ByteArray)))],[(vS ((⟨#[98,111,111,108]⟩:ByteArray)))],[(vS ((⟨#[117,110,105,116]⟩:ByteArray)))]] .full)),(7,(vI 3)),(8,(vI (i)))],lm2 35 [(2,(0,[(vI (0)),(vS ((⟨#[]⟩:ByteArray))),(.slice 0 [] .full),(.slice 0 [] .full)]))],⟨[hp5 (tks l) z 0 0 d],[],.none,1⟩⟩)
   (fun i=>i≤3∧(1≤i→isW wInt l=false)∧(2≤i→isW b2I l=false)∧(3≤i→isW b2J l=false)) (fun i=>3-i) 0 (by kernel_rfl) ⟨by omega,by omega,by omega,by omega⟩ ?_)
  rintro i ⟨hi,q1,q2,q3⟩
  refine a1j (z1z ..) (a1d (fun h=>?_) (fun h=>?_))
  ·have h:=of_decide_eq_true h
   rw[a1Z (by omega)]
   have hi3:i=0∨i=1∨i=2:=by omega
   rcases hi3 with rfl|rfl|rfl
   ·refine⟨⟨#[105,110,116]⟩,⟨by decide,rfl⟩,l1j (b1G l z d _) (fun hw=>a1h ⟨rfl,c1i (a:=.con [wInt]) (l:=l.tail) ?_ hg.tail ?_⟩) (fun hw=>a1e ⟨1,⟨⟨by omega,fun _=>hw,by omega,by omega⟩,by omega⟩,rfl⟩)⟩
    ·have hw1:isW wInt l=true:=hw
     rw[←hX,if_pos hw1]
    ·rfl
   ·refine⟨⟨#[98,111,111,108]⟩,⟨by decide,rfl⟩,l1j (b1G l z d _) (fun hw=>a1h ⟨rfl,c1i (a:=.con [b2I]) (l:=l.tail) ?_ hg.tail ?_⟩) (fun hw=>a1e ⟨2,⟨⟨by omega,fun _=>q1 (by omega),fun _=>hw,by omega⟩,by omega⟩,rfl⟩)⟩
    ·have hw1:isW b2I l=true:=hw
     rw[←hX,if_neg (by rw[q1 (by omega)];decide),if_pos hw1]
    ·rfl
   ·refine⟨⟨#[117,110,105,116]⟩,⟨by decide,rfl⟩,l1j (b1G l z d _) (fun hw=>a1h ⟨rfl,c1i (a:=.con [b2J]) (l:=l.tail) ?_ hg.tail ?_⟩) (fun hw=>a1e ⟨3,⟨⟨by omega,fun _=>q1 (by omega),fun _=>q2 (by omega),fun _=>hw⟩,by omega⟩,rfl⟩)⟩
    ·have hw1:isW b2J l=true:=hw
     rw[←hX,if_neg (by rw[q1 (by omega)];decide),if_neg (by rw[q2 (by omega)];decide),if_pos hw1]
    ·rfl
  ·have h:=of_decide_eq_false h
   rw[if_neg (by rw[q1 (by omega)];decide),if_neg (by rw[q2 (by omega)];decide),if_neg (by rw[q3 (by omega)];decide)] at hX
   refine a1h (h2y (g1O l z d 5) (fun h5=>?_) (fun h5=>?_))
   ·rw[if_pos h5] at hX
    cases l with
    |nil=>cases h5
    |cons t r=>
     have hk:(t.kind==5)=true:=h5
     have hne:=hg.cons.1.1 (by simpa using hk)
     have htk:taken z 5 (t::r)=.ok t.text r:=by simp only[taken,hk,if_true]
     refine p1F (j1k (k:=5) hg hd (by omega)) (fun u r2 hF hg2=>?_) (fun e p r2 hF he=>?_)
     ·rw[htk] at hF
      injection hF with e1 e2
      subst e1 e2
      have hsz:(bs t.text).size=t.text.length:=by simp [bs,ByteArray.size]
      refine⟨decide_eq_true ⟨by decide,?_,Int.le_refl _⟩,rfl,c1i (a:=.var (t.text.drop 1)) (l:=r) ?_ hg2 ?_⟩
      ·have:0<t.text.length:=List.length_pos_iff.2 hne
       omega
      ·rw[←hX];rfl
      ·have:(bs t.text).extract (Int.toNat 1) (((bs t.text).size:Int).toNat)=bs (t.text.drop 1):=by
        apply b2T
        rw[x1D,Int.toNat_natCast,hsz]
        show (t.text.drop 1).take (t.text.length-1)=t.text.drop 1
        exact List.take_of_length_le (by simp)
       rw[this];rfl
     ·rw[htk] at hF;cases hF
   ·rw[if_neg (by rw[h5];decide)] at hX
    refine l1j (b1G l z d _) (fun hw=>?_) (fun hw=>?_)
    ·have hw1:isW wOpen l=true:=hw
     have hl2:=b1k hw1
     rw[if_pos hw1] at hX
     refine w1k (c1Y hd (I.Ty hg.tail (by omega) (by omega))) (fun t r hF hg1=>?_) (fun e p r hF he=>⟨rfl,b1o (by rw[←hX,hF];rfl) he⟩)
     refine c1V (c1n hg1 hd (by omega)) (fun u r2 hF2 hg2=>⟨rfl,c1i (a:=t) (l:=r2) ?_ hg2 (k1O t)⟩) (fun e p r2 hF2 he=>⟨rfl,b1o ?_ he⟩)
     ·have hF2':need z wClose r=.ok u r2:=hF2
      rw[←hX,hF];simp only[Res.bind,hF2']
     ·have hF2':need z wClose r=.no e p:=hF2
      rw[←hX,hF];simp only[Res.bind,hF2']
    ·have hw1:isW wOpen l=false:=hw
     rw[if_neg (by rw[hw1];decide)] at hX
     refine h2z (h2E (b:=true) hg hd (by omega)) (fun p r hF hg1=>⟨rfl,c1i (a:=.con p) (l:=r) ?_ hg1 ?_⟩) (fun e p r hF he=>⟨rfl,b1o ?_ he⟩)
     ·rw[←hX]
      simp only[Bool.not_true] at hF
      cases hp:path z true false (pl z l) [] l with
      |ok x r'=>rw[hp] at hF;simp only[Res.bind] at hF⊢;injection hF with e1 e2;rw[e1,e2]
      |no e p=>rw[hp] at hF;cases hF
     ·rw[←k1O];rfl
     ·rw[←hX]
      simp only[Bool.not_true] at hF
      cases hp:path z true false (pl z l) [] l with
      |ok x r'=>rw[hp] at hF;cases hF
      |no e' p'=>rw[hp] at hF;simp only[Res.bind] at hF⊢;injection hF with e1 e2;rw[e1,e2]
end Go.Proofs
end

section
open Go Go.Eng
namespace Go.Proofs
noncomputable def shL6:List (Nat×KM):=[(a1M,.con (some (.arg 0)) none true),
 (b1Q,.con (some (.arg 0)) none true),
 (b1h,.con (some (.arg 0)) none true),
 (a1F,.con (some (a1s Pg a1F)) (some (a1a,.int .i64)) false),
 (b1n,.con (some (a1s Pg b1n)) (some (a1a,.int .i64)) false),
 (b1c,.con (some (a1s Pg b1c)) (some (a1a,.int .i64)) false),
 (m1p,.inl true),
 (g1u,.con (some (a1s Pg g1u)) none false),
 (f1I,.con (some (a1s Pg f1I)) none false),
 (f1H,.con (some (a1s Pg f1H)) none false),
 (f1J,.con (some (a1s Pg f1J)) none false),
 (f1L,.con (some (a1s Pg f1L)) none false),
 (f1M,.con (some (a1s Pg f1M)) none false),
 (f1N,.con (some (a1s Pg f1N)) none false),
 (f1C,.con (some (a1s Pg f1C)) none false),
 (k1l,.con (some (a1s Pg k1l)) none false),
 (j1F,.con (some (a1s Pg j1F)) none false),
 (j1E,.con (some (a1s Pg j1E)) none false),
 (i1H,.con (some (a1s Pg i1H)) none false),
 (i1L,.con (some (a1s Pg i1L)) none false),
 (j1H,.con (some (a1s Pg j1H)) none false),
 (i1I,.con (some (a1s Pg i1I)) none false),
 (i1J,.con (some (a1s Pg i1J)) none false),
 (i1K,.con (some (a1s Pg i1K)) none false),
 (j1G,.con (some (a1s Pg j1G)) none false),
 (j1L,.con (some (a1s Pg j1L)) none false),
 (i1Q,.con (some (a1s Pg i1Q)) none false),
 (i1R,.con (some (a1s Pg i1R)) none false),
 (j1N,.con (some (a1s Pg j1N)) none false),
 (i1S,.con (some (a1s Pg i1S)) none false),
 (j1O,.con (some (a1s Pg j1O)) none false),
 (i1U,.con (some (a1s Pg i1U)) none false),
 (a1R,.con (some (a1s Pg a1R)) none false),
 (a1Q,.con (some (a1s Pg a1Q)) none false),
 (a1X,.con (some (a1s Pg a1X)) none false),
 (a1E,.con (some (a1s Pg a1E)) none false),
 (b1z,.con (some (a1s Pg b1z)) none false),
 (d1k,.con (some (a1s Pg d1k)) none false),
 (d1l,.con (some (a1s Pg d1l)) none false),
 (d1m,.con (some (a1s Pg d1m)) none false),
 (f1O,.con (some (a1s Pg f1O)) none false),
 (d1n,.con (some (a1s Pg d1n)) none false),
 (j1M,.con (some (a1s Pg j1M)) none false),
 (i1T,.con (some (a1s Pg i1T)) none false),
 (h1X,.con (some (a1s Pg h1X)) none false),
 (h1Y,.con (some (a1s Pg h1Y)) none false),
 (h1Z,.con (some (a1s Pg h1Z)) none false),
 (h1U,.con (some (a1s Pg h1U)) none false),
 (i1P,.con (some (a1s Pg i1P)) none false),
 (e1W,.con (some (a1s Pg e1W)) none false)]
noncomputable def sh6:FuncId→KM:=fun f=>match shL6.lookup f with
 |some k=>k
 |none=>.inl false
@[irreducible] noncomputable def kc6:KC:=k1a Pg cfg0 rs0 sh6 12
@[irreducible] noncomputable def kt6 (f:FuncId) (args:List AV) (H:Heap):KT:=u1f Pg cfg0 rs0 sh6 12 false f args .none H
@[irreducible] noncomputable def ktc6 (f:FuncId) (args:List AV) (H:Heap):KT:=u1f Pg cfg0 rs0 sh6 12 true f args .none H
theorem hkc6 {QD:List (St→Prop)} {QR:CRes→Prop}:KCS Pg cfg0 evp QD QR kc6:=by
 delta kc6
 exact f1c (d1f hx0) 12 _
theorem j2U {f:FuncId} {args:List AV} {H:Heap} {r:CRes} (h:(kt6 f args H).wp Pg cfg0 evp [] (fun x=>x=r)):evp f args .none H=some r:=by
 delta kt6 at h
 obtain⟨x,h1,rfl⟩:=d1P (d1f hx0) h
 exact h1
theorem i2d {f:FuncId} {args:List AV} {H:Heap} {r:CRes} (h:(ktc6 f args H).wp Pg cfg0 evp [] (fun x=>x=r)):evp f args .none H=some r:=by
 delta ktc6 at h
 obtain⟨x,h1,rfl⟩:=d1P (d1f hx0) h
 exact h1
theorem z1Q {σ:Type} {t:KT} {QD:List (St→Prop)} {QR:CRes→Prop} (S:σ→St) (Inv:σ→Prop) (m:σ→Nat) (a0:σ) (h0:t.atLoop=some (S a0)) (hi:Inv a0)
  (hr:∀a,Inv a→(t.round Pg cfg0 rs0 kc6 (S a)).wp Pg cfg0 evp ((fun s=>∃a',(Inv a'∧m a'<m a)∧s=S a')::QD) QR):t.wp Pg cfg0 evp QD QR:=
 m1J (rs:=rs0) (kc:=kc6) S Inv m a0 (fun _=>hkc6) h0 hi hr
end Go.Proofs
end

section
/- TREES, printed by kt.py out of y8.txt -/
open Go Go.Eng
open IntKind (wrap)
namespace Go.Proofs
set_option linter.unusedVariables false
set_option maxRecDepth 100000
@[irreducible] noncomputable def s1I (p q:List (List AV)):KT:=(kt6 a1R [.slice 1 p .no,.slice 1 q .no] []).F
@[irreducible] noncomputable def k1B (p q:List (List AV)):KT:=(kt6 a1Q [.slice 4 p .no,.slice 4 q .no] []).F
theorem n1O (k) (n:ByteArray) (p q):ktc6 b1W [AV.agg [vI k,vS n,AV.slice 1 p Own.no,AV.slice 4 q Own.no]] []=
 zkI3 fun i i1 i2=>.call a1M [zkP,.slice 4 [zk6 k n p q] .full] .none [[vI 0,vI 0,vI 0]] (zkR zkP [zk33 i i1 i2]) (.branch (decide (i2>100)) (.need true (.ret (zkR (vI 4) []))) (.alt (zk3 a1F (zk39 k n p q) [zk33 i i1 i2,[vI 0]] (.need true (.branch (!true) (.branch (!false) .fail (.need true (.ret (zkR (vI 0) [])))) (.need true (.ret (zkR (vI 0) [])))))) (.exI fun i3=>zk2 a1F (zk39 k n p q) [zk33 i i1 i2,[vI 0]] (.iface a1a (vI i3)) (.need true (.branch (!false) (.branch (!true) (.need true (.ret (zkQ (.iface a1a (vI i3)) []))) (.need true (.ret (zkR (vI i3) [])))) (.need true (.ret (zkR (vI 0) [])))))))):=by kernel_rfl
@[irreducible] noncomputable def s1J (p q:List (List AV)):KT:=kt6 a1R [AV.slice 1 p Own.no,AV.slice 1 q Own.no] []
theorem w1C (p q):kt6 a1R [AV.slice 1 p Own.no,AV.slice 1 q Own.no] []=
 .branch ((↑p.length:Int)!=(↑q.length:Int)) (.need true (.ret (zkR (vB false) []))) ((s1J p q).F):=by kernel_rfl
@[irreducible] noncomputable def m1Z (p q:List (List AV)):KT:=kt6 a1Q [AV.slice 4 p Own.no,AV.slice 4 q Own.no] []
theorem s1K (p q):kt6 a1Q [AV.slice 4 p Own.no,AV.slice 4 q Own.no] []=
 .branch ((↑p.length:Int)!=(↑q.length:Int)) (.need true (.ret (zkR (vB false) []))) ((m1Z p q).F):=by kernel_rfl
theorem v1h (p q) (i:Nat):KT.round Pg cfg0 rs0 kc6 (s1I p q) (zkS 26 [(0,zkN 1 p),(1,zkN 1 q),(5,vI (↑i:Int))] [] [] 0)=
 .branch (decide ((↑i:Int)<(↑p.length:Int))) (.exS fun s=>.row p (↑i:Int) [vS s] (.exS fun s1=>.row q (↑i:Int) [vS s1] (.branch (!s.toList==s1.toList) (.out (.need true (.ret (zkR (vB false) [])))) (.done (zkS 26 [(0,zkN 1 p),(1,zkN 1 q),(5,vI (wrap .i64 ((↑i:Int)+1)))] [] [] 0))))) (.out (.need true (.ret (zkR (vB true) [])))):=by kernel_rfl
@[irreducible] noncomputable def q1i (p q:List (List AV)) (i:Nat):KT:=KT.round Pg cfg0 rs0 kc6 (k1B p q) (zkS 53 [(0,zkN 4 p),(1,zkN 4 q),(5,vI (↑i:Int))] [] [] 0)
theorem q1R (p q) (i:Nat):KT.round Pg cfg0 rs0 kc6 (k1B p q) (zkS 53 [(0,zkN 4 p),(1,zkN 4 q),(5,vI (↑i:Int))] [] [] 0)=
 .branch (decide ((↑i:Int)<(↑p.length:Int))) (.exI fun i1=>.exS fun s=>zkR2 fun l l1=>.row p (↑i:Int) (zk6 i1 s l l1) (.exI fun i2=>.exS fun s1=>zkR2 fun l2 l3=>.row q (↑i:Int) (zk6 i2 s1 l2 l3) (.stage (.branch (i1 !=i2) (.out (.out (.need true (.ret (zkR (vB false) []))))) (.branch (!s.toList==s1.toList) (.out (.out (.need true (.ret (zkR (vB false) []))))) (zk5 a1R [zkN 1 l,zkN 1 l2] [] (fun b=>.branch (!b) (.out (.out (.need true (.ret (zkR (vB false) []))))) (.done (zkS 53 [(0,zkN 4 p),(1,zkN 4 q),(5,vI (↑i:Int)),(6,.lp 6 0 0),(7,.lp 7 0 0)] [(6,0,zk6 i1 s l l1),(7,0,zk6 i2 s1 l2 l3)] [] 0)))))) ((((((((((q1i p q i).T.I i1).S s).R l).R l1).T.I i2).S s1).R l2).R l3).T.K)))) (.out (.need true (.ret (zkR (vB true) [])))):=by kernel_rfl
theorem o1a (p q) (i:Nat) (i1) (s:ByteArray) (l l1 i2) (s1:ByteArray) (l2 l3):(((((((((q1i p q i).T.I i1).S s).R l).R l1).T.I i2).S s1).R l2).R l3).T.K (zkS 53 [(0,zkN 4 p),(1,zkN 4 q),(5,vI (↑i:Int)),(6,.lp 6 0 0),(7,.lp 7 0 0)] [(6,0,zk6 i1 s l l1),(7,0,zk6 i2 s1 l2 l3)] [] 0)=
 zk5 a1Q [zkN 4 l1,zkN 4 l3] [] (fun b=>.branch (!b) (.out (.need true (.ret (zkR (vB false) [])))) (.done (zkS 53 [(0,zkN 4 p),(1,zkN 4 q),(5,vI (wrap .i64 ((↑i:Int)+1)))] [] [] 0))):=by kernel_rfl
end Go.Proofs
end

section
/- PARSE: the document's checks of names, paths and types: an error that is never ErrDeep -/
set_option linter.unusedVariables false
set_option linter.unusedSimpArgs false
set_option maxRecDepth 100000
open Go Go.Eng Go.Pa
open Go.Lx (T Tok)
namespace Go.Proofs
section
variable {QD:List (St→Prop)} {QR:CRes→Prop}
end
def SM:Nat:=2000000000
theorem bsz (t:T):(bs t).size=t.length:=by simp [bs,ByteArray.size]
end Go.Proofs
end

section
/- PARSE: the document's depth and sameness of types -/
set_option linter.unusedVariables false
set_option linter.unusedSimpArgs false
set_option maxRecDepth 100000
open Go Go.Eng Go.Pa
open Go.Lx (T Tok)
namespace Go.Proofs
theorem q1s {f:FuncId} {args:List AV} {H:Heap} {r:CRes} (h:(kt6 f args H).wp Pg cfg0 evp [] (fun x=>x=r)):evp f args .none H=some r:=j2U h
def k1o:Ty→List Ty
 | .fn a b=>[a,b]
 | .pair a b=>[a,b]
 |_=>[]
abbrev n1l (l:List Ty):List (List AV):=l.map fun t=>avs t.row
theorem f2U (t:Ty):tyQ t=n1l (k1o t):=by cases t<;>rfl
theorem f2V {t k:Ty} (h:k∈k1o t):k.cnt<t.cnt:=by
 cases t with
 |fn a b=>simp [k1o] at h;rcases h with rfl|rfl<;>(simp only[Ty.cnt];omega)
 |pair a b=>simp [k1o] at h;rcases h with rfl|rfl<;>(simp only[Ty.cnt];omega)
 |_=>simp [k1o] at h
theorem i2q {t k:Ty} (ho:t.Ok) (h:k∈k1o t):k.Ok:=by
 cases t with
 |fn a b=>simp [k1o] at h;rcases h with rfl|rfl;exact ho.1;exact ho.2
 |pair a b=>simp [k1o] at h;rcases h with rfl|rfl;exact ho.1;exact ho.2
 |_=>simp [k1o] at h
theorem f2W (t:Ty):(k1o t).length≤2:=by cases t<;>simp [k1o]
theorem d2N {l:List Ty} {i:Nat} (h:i<l.length):(0:Int)≤(i:Int)∧(n1l l)[(i:Int).toNat]? =some [vI (tyK l[i]),vS (tyN l[i]),.slice 1 (tyP l[i]) .no,.slice 4 (tyQ l[i]) .no]:=
 ⟨Int.natCast_nonneg i,by rw[Int.toNat_natCast,List.getElem?_map,List.getElem?_eq_getElem h,Option.map_some,g1s]⟩
theorem k2h {t:Ty} (h:t.Ok):∃p,tyP t=c1o p∧h1i p:=by
 cases t with
 |con p=>exact⟨p,rfl,h⟩
 |_=>exact⟨[],rfl,by simp,fun w hw=>by cases hw⟩
theorem t1s {p:List T} (hp:p.length<SM):evp a1R [.slice 1 (c1o p) .no,.slice 1 (c1o p) .no] .none []=some ⟨.ret (vB true),.none,[]⟩:=by
 unfold SM at hp
 have hY:(s1J (c1o p) (c1o p)).F=s1I (c1o p) (c1o p):=by delta s1J s1I;rfl
 refine q1s (a1j (w1C ..) (a1d (fun h=>absurd rfl (bne_iff_ne.1 h)) (fun _=>a1j hY (z1Q (fun i:Nat=>⟨tm2 26 [(0,(.slice 1 (c1o p) .no)),(1,(.slice 1 (c1o p) .no)),(5,(vI (i)))],lm2 26 [],⟨[],[],.none,0⟩⟩) (fun i=>i≤p.length) (fun i=>p.length-i) 0 (by kernel_rfl) (Nat.zero_le _) ?_))))
 intro i hi
 refine a1j (v1h ..) (a1d (fun hlt=>?_) (fun _=>a1h ⟨rfl,rfl⟩))
 have hlt:=of_decide_eq_true hlt
 simp only[List.length_map] at hlt
 have hi2:i<p.length:=by omega
 have hr:(0:Int)≤(i:Int)∧(c1o p)[(i:Int).toNat]? =some [vS (bs p[i])]:=⟨Int.natCast_nonneg i,by rw[Int.toNat_natCast,List.getElem?_map,List.getElem?_eq_getElem hi2];rfl⟩
 rw[a1Z (x:=i) (by omega)]
 refine⟨_,hr,_,hr,a1d (fun h=>?_) (fun _=>a1e ⟨i+1,⟨by omega,by omega⟩,rfl⟩)⟩
 rw[n1B] at h;simp at h
theorem a2D {own:Own} {l:List Ty} {N:Nat} (hl:l.length<SM) (ho:∀t∈l,t.Ok) (hc:∀t∈l,t.cnt≤N)
  (ih:∀M,M<N→∀l:List Ty,l.length<SM→(∀t∈l,t.Ok)→(∀t∈l,t.cnt≤M)→evp a1Q [.slice 4 (n1l l) .no,.slice 4 (n1l l) .no] .none []=some ⟨.ret (vB true),.none,[]⟩) {i:Nat} (hi:i<l.length):
  evp a1Q [.slice 4 (tyQ l[i]) .no,.slice 4 (tyQ l[i]) .no] .none []=some ⟨.ret (vB true),.none,[]⟩∧evp a1R [.slice 1 (tyP l[i]) .no,.slice 1 (tyP l[i]) .no] .none []=some ⟨.ret (vB true),.none,[]⟩:=by
 have hm:=List.getElem_mem hi
 have h1:=hc _ hm
 have h2:=(p1w l[i]).2
 obtain⟨p,hp1,hp2⟩:=k2h (ho _ hm)
 rw[f2U,hp1]
 refine⟨ih (N-1) (by omega) _ (by have:=f2W l[i];unfold SM;omega) (fun t ht=>i2q (ho _ hm) ht) (fun t ht=>by have:=f2V ht;omega),t1s (by have:=hp2.1;unfold SM;omega)⟩
theorem v1t:∀N (l:List Ty),l.length<SM→(∀t∈l,t.Ok)→(∀t∈l,t.cnt≤N)→evp a1Q [.slice 4 (n1l l) .no,.slice 4 (n1l l) .no] .none []=some ⟨.ret (vB true),.none,[]⟩:=by
 intro N
 induction N using Nat.strongRecOn with
 |ind N ih=>
  intro l hl ho hc
  have hl':=hl
  unfold SM at hl'
  have hY:(m1Z (n1l l) (n1l l)).F=k1B (n1l l) (n1l l):=by delta m1Z k1B;rfl
  refine q1s (a1j (s1K ..) (a1d (fun h=>absurd rfl (bne_iff_ne.1 h)) (fun _=>a1j hY (z1Q (fun i:Nat=>⟨tm2 53 [(0,(.slice 4 (n1l l) .no)),(1,(.slice 4 (n1l l) .no)),(5,(vI (i)))],lm2 53 [],⟨[],[],.none,0⟩⟩) (fun i=>i≤l.length) (fun i=>l.length-i) 0 (by kernel_rfl) (Nat.zero_le _) ?_))))
  intro i hi
  refine a1j (q1R ..) (a1d (fun hlt=>?_) (fun _=>a1h ⟨rfl,rfl⟩))
  have hlt:=of_decide_eq_true hlt
  simp only[List.length_map] at hlt
  have hi2:i<l.length:=by omega
  obtain⟨q1,q2⟩:=a2D (own:=.no) hl ho hc ih hi2
  refine⟨_,_,_,_,d2N hi2,_,_,_,_,d2N hi2,a1t (a1d (fun h=>absurd rfl (bne_iff_ne.1 h)) (fun _=>a1d (fun h=>by rw[n1B] at h;simp at h) (fun _=>⟨true,q2,a1d nf (fun _=>a1e (a1j (o1a ..) ⟨true,q1,a1d nf (fun _=>?_)⟩))⟩)))⟩
  rw[a1Z (x:=i) (by omega)]
  exact a1e ⟨i+1,⟨by omega,by omega⟩,rfl⟩
end Go.Proofs
end

section
/- PARSE: contracts in the empty heap hold in any heap -/
set_option linter.unusedVariables false
set_option linter.unusedSimpArgs false
open Go Go.Eng
namespace Go.Eng
theorem o1l {P:Program} {cfg:FuncId→FCfg} {g:PExt} (hg:∀f e,g f=some e→∀args v,e args=some v→∀ρ:Nat→Nat,e (args.map (AV.ren ρ))=some (v.ren ρ)) {f:FuncId} {args:List AV} {o:Out} {K:Heap} (h:ev P cfg g.ext f args .none []=some ⟨o,.none,[]⟩)
  (ha:args.map (AV.ren (· +K.length))=args) (ho:g1B (· +K.length) o=o) (hk:lowss K.length K=true):ev P cfg g.ext f args .none K=some ⟨o,.none,K⟩:=by
 have hf:Fr (· +K.length) 0 K.length K:=⟨fun i hi=>by omega,fun i hi=>by simp,fun i j hi=>by omega,fun j cs hj _ _=>by
  rw[j1Y,List.all_eq_true] at hk
  exact hk cs (List.mem_of_getElem? hj)⟩
 obtain⟨r,h1,h2⟩:=g2c hf (PExt.extR hg) f args .none [] _ h K ⟨Nat.zero_le _,by simp,fun i=>by simp,fun j hj _=>rfl⟩
 rw[ha] at h1
 have e0:h1y (· +K.length) .none=.none:=rfl
 rw[e0] at h1
 rw[h1]
 obtain⟨o',rm',H'⟩:=r
 have e1:=h2.o
 have e2:=h2.rm
 simp only[ho] at e1 e2
 have e3:H'=K:=by
  apply List.ext_getElem?
  intro j
  rcases Nat.lt_or_ge j K.length with hj|hj
  ·exact h2.H.off j hj fun i hi=>absurd hi (by omega)
  ·have:=h2.H.len
   simp at this
   rw[List.getElem?_eq_none (by omega),List.getElem?_eq_none hj]
 rw[e1,e2,e3];rfl
end Go.Eng
end

section
/- nodes and depth of plain data, asq the walker counts them -/
open Go Go.Eng
namespace Go.Proofs.Ck
set_option linter.unusedVariables false
def oneR:Row→Nat
 |[]=>0
 |_::_=>1
mutual
def cntC:CT→Nat
 | .rows sz l=>if sz=1 then 0 else cnts l
 |_=>0
def cntR:Row→Nat
 |[]=>0
 |c::r=>cntC c+cntR r
def cnts:List Row→Nat
 |[]=>0
 |r::l=>oneR r+cntR r+cnts l
end
mutual
def wmC (m d:Nat):CT→Nat
 | .rows sz l=>if sz=1 then m else wms m d l
 |_=>m
def wmR (m d:Nat):Row→Nat
 |[]=>m
 |c::r=>wmR (wmC m d c) d r
def wms (m d:Nat):List Row→Nat
 |[]=>m
 |r::l=>wms (wmR (max m (d+1)) (d+1) r) d l
end
theorem q1j (a b:List Row):cnts (a++b)=cnts a+cnts b:=by
 induction a with
 |nil=>simp [cnts]
 |cons r a ih=>simp only[List.cons_append,cnts,ih];omega
theorem z1E (m d:Nat) (a b:List Row):wms m d (a++b)=wms (wms m d a) d b:=by
 induction a generalizing m with
 |nil=>rfl
 |cons r a ih=>simp only[List.cons_append,wms,ih]
theorem r1H {α:Type} {l:List α} {i:Nat} {x:α} (h:l[i]? =some x):l.take (i+1)=l.take i++[x]:=by
 rw[List.take_add_one,h];rfl
theorem e1v {l:List Row} {i:Nat} {r:Row} (h:l[i]? =some r):cnts (l.take (i+1))=cnts (l.take i)+oneR r+cntR r:=by
 rw[r1H h,q1j];simp only[cnts];omega
theorem g1l {m d:Nat} {l:List Row} {i:Nat} {r:Row} (h:l[i]? =some r):wms m d (l.take (i+1))=wmR (max (wms m d (l.take i)) (d+1)) (d+1) r:=by
 rw[r1H h,z1E];rfl
theorem i1n {l:List Row} {i:Nat} {r:Row} (h:l[i]? =some r):cnts (l.take i)+oneR r+cntR r≤cnts l:=by
 rw[←e1v h]
 conv=>rhs;rw[←List.take_append_drop (i+1) l,q1j]
 omega
theorem g1m {l:List Row} (h:∀r∈l,r≠[]):l.length≤cnts l:=by
 induction l with
 |nil=>simp [cnts]
 |cons r l ih=>
  have h1:=ih fun x hx=>h x (by simp [hx])
  have h2:oneR r=1:=by cases r with
   |nil=>exact absurd rfl (h [] (by simp))
   |cons=>rfl
  simp only[List.length_cons,cnts];omega
end Go.Proofs.Ck
end

section
/- the nodes' types: what plain data of them looks like -/
open Go Go.Eng
namespace Go.Proofs.Ck
set_option linter.unusedVariables false
set_option maxRecDepth 100000
theorem q1m:Pg.underlying n1c=some (.int .i64):=by kernel_rfl
theorem w1L:Pg.underlying s1S=some (.int .i64):=by kernel_rfl
theorem j1s:Pg.underlying b1T=some .string:=by kernel_rfl
theorem f1q:Pg.underlying y_s_string=some (.slice b1T):=by kernel_rfl
theorem i1a:Pg.cellsOf b1T=1:=by kernel_rfl
theorem r1I {r:Row} (h:Has Pg b1T r):∃s,r=[.str s]∧s.size≤maxLen:=h.str_inv j1s
theorem m1r:Pg.underlying y_s_api_Ty=some (.slice c1e):=by kernel_rfl
theorem c_Ty:Pg.cellsOf c1e=4:=by kernel_rfl
theorem s1T:Pg.underlying y_s_api_Pat=some (.slice c1A):=by kernel_rfl
theorem f2D:Pg.cellsOf c1A=5:=by kernel_rfl
theorem s1U:Pg.underlying y_s_api_Exp=some (.slice c1z):=by kernel_rfl
theorem f2E:Pg.cellsOf c1z=8:=by kernel_rfl
theorem w1M:Pg.underlying y_s_api_Con=some (.slice e1f):=by kernel_rfl
theorem i2e:Pg.cellsOf e1f=2:=by kernel_rfl
theorem w1N:Pg.underlying y_s_api_Dec=some (.slice c1u):=by kernel_rfl
theorem i2f:Pg.cellsOf c1u=9:=by kernel_rfl
theorem w1O:Pg.underlying y_s_api_Mod=some (.slice e1g):=by kernel_rfl
theorem i2g:Pg.cellsOf e1g=5:=by kernel_rfl
theorem q1n:Pg.underlying y_s_api_Sig=some (.slice d1o):=by kernel_rfl
theorem d2s:Pg.cellsOf d1o=5:=by kernel_rfl
theorem f2F:Pg.underlying n1Q=some (.slice d1G):=by kernel_rfl
theorem j2V:Pg.cellsOf d1G=6:=by kernel_rfl
theorem s_Ty:d1x Pg c1e=some [n1c,b1T,y_s_string,y_s_api_Ty]:=by kernel_rfl
theorem v1n {r:Row} (h:Has Pg c1e r):∃(k:Int) (n:ByteArray) (p:List Row) (a:List Row),r=[.int .i64 k,.str n,.rows 1 p,.rows 4 a]∧(∀x∈p,Has Pg b1T x)∧(∀x∈a,Has Pg c1e x):=by
 have h:=h.fields s_Ty
 obtain⟨k,r,rfl,w_k,h⟩:=h.int q1m
 obtain⟨n,r,rfl,w_n,h⟩:=h.str j1s
 obtain⟨p,r,rfl,l_p,f_p,h⟩:=h.slice f1q 1 i1a
 obtain⟨a,r,rfl,l_a,f_a,h⟩:=h.slice m1r 4 c_Ty
 obtain rfl:=h.nil_inv
 exact⟨k,n,p,a,rfl,f_p,f_a⟩
theorem j2W:d1x Pg c1A=some [n1c,b1T,y_s_string,s1S,y_s_api_Pat]:=by kernel_rfl
theorem s1V {r:Row} (h:Has Pg c1A r):∃(k:Int) (n:ByteArray) (p:List Row) (m:Int) (a:List Row),r=[.int .i64 k,.str n,.rows 1 p,.int .i64 m,.rows 5 a]∧(∀x∈p,Has Pg b1T x)∧(∀x∈a,Has Pg c1A x):=by
 have h:=h.fields j2W
 obtain⟨k,r,rfl,w_k,h⟩:=h.int q1m
 obtain⟨n,r,rfl,w_n,h⟩:=h.str j1s
 obtain⟨p,r,rfl,l_p,f_p,h⟩:=h.slice f1q 1 i1a
 obtain⟨m,r,rfl,w_m,h⟩:=h.int w1L
 obtain⟨a,r,rfl,l_a,f_a,h⟩:=h.slice s1T 5 f2D
 obtain rfl:=h.nil_inv
 exact⟨k,n,p,m,a,rfl,f_p,f_a⟩
theorem j2X:d1x Pg c1z=some [n1c,n1c,s1S,y_s_string,y_s_api_Pat,y_s_api_Exp,y_s_api_Dec,y_s_api_Ty]:=by kernel_rfl
theorem q1o {r:Row} (h:Has Pg c1z r):∃(k:Int) (o:Int) (m:Int) (p:List Row) (a:List Row) (b:List Row) (c:List Row) (d:List Row),r=[.int .i64 k,.int .i64 o,.int .i64 m,.rows 1 p,.rows 5 a,.rows 8 b,.rows 9 c,.rows 4 d]∧(∀x∈p,Has Pg b1T x)∧(∀x∈a,Has Pg c1A x)∧(∀x∈b,Has Pg c1z x)∧(∀x∈c,Has Pg c1u x)∧(∀x∈d,Has Pg c1e x):=by
 have h:=h.fields j2X
 obtain⟨k,r,rfl,w_k,h⟩:=h.int q1m
 obtain⟨o,r,rfl,w_o,h⟩:=h.int q1m
 obtain⟨m,r,rfl,w_m,h⟩:=h.int w1L
 obtain⟨p,r,rfl,l_p,f_p,h⟩:=h.slice f1q 1 i1a
 obtain⟨a,r,rfl,l_a,f_a,h⟩:=h.slice s1T 5 f2D
 obtain⟨b,r,rfl,l_b,f_b,h⟩:=h.slice s1U 8 f2E
 obtain⟨c,r,rfl,l_c,f_c,h⟩:=h.slice w1N 9 i2f
 obtain⟨d,r,rfl,l_d,f_d,h⟩:=h.slice m1r 4 c_Ty
 obtain rfl:=h.nil_inv
 exact⟨k,o,m,p,a,b,c,d,rfl,f_p,f_a,f_b,f_c,f_d⟩
theorem s_Con:d1x Pg e1f=some [b1T,y_s_api_Ty]:=by kernel_rfl
theorem s1W {r:Row} (h:Has Pg e1f r):∃(n:ByteArray) (a:List Row),r=[.str n,.rows 4 a]∧(∀x∈a,Has Pg c1e x):=by
 have h:=h.fields s_Con
 obtain⟨n,r,rfl,w_n,h⟩:=h.str j1s
 obtain⟨a,r,rfl,l_a,f_a,h⟩:=h.slice m1r 4 c_Ty
 obtain rfl:=h.nil_inv
 exact⟨n,a,rfl,f_a⟩
theorem j2Y:d1x Pg c1u=some [n1c,n1c,b1T,y_s_string,y_s_api_Ty,y_s_api_Exp,y_s_api_Con,y_s_api_Mod,y_s_api_Sig]:=by kernel_rfl
theorem n1d {r:Row} (h:Has Pg c1u r):∃(k:Int) (o:Int) (n:ByteArray) (p:List Row) (a:List Row) (b:List Row) (c:List Row) (d:List Row) (e:List Row),r=[.int .i64 k,.int .i64 o,.str n,.rows 1 p,.rows 4 a,.rows 8 b,.rows 2 c,.rows 5 d,.rows 5 e]∧(∀x∈p,Has Pg b1T x)∧(∀x∈a,Has Pg c1e x)∧(∀x∈b,Has Pg c1z x)∧(∀x∈c,Has Pg e1f x)∧(∀x∈d,Has Pg e1g x)∧(∀x∈e,Has Pg d1o x):=by
 have h:=h.fields j2Y
 obtain⟨k,r,rfl,w_k,h⟩:=h.int q1m
 obtain⟨o,r,rfl,w_o,h⟩:=h.int q1m
 obtain⟨n,r,rfl,w_n,h⟩:=h.str j1s
 obtain⟨p,r,rfl,l_p,f_p,h⟩:=h.slice f1q 1 i1a
 obtain⟨a,r,rfl,l_a,f_a,h⟩:=h.slice m1r 4 c_Ty
 obtain⟨b,r,rfl,l_b,f_b,h⟩:=h.slice s1U 8 f2E
 obtain⟨c,r,rfl,l_c,f_c,h⟩:=h.slice w1M 2 i2e
 obtain⟨d,r,rfl,l_d,f_d,h⟩:=h.slice w1O 5 i2g
 obtain⟨e,r,rfl,l_e,f_e,h⟩:=h.slice q1n 5 d2s
 obtain rfl:=h.nil_inv
 exact⟨k,o,n,p,a,b,c,d,e,rfl,f_p,f_a,f_b,f_c,f_d,f_e⟩
theorem s_Mod:d1x Pg e1g=some [n1c,y_s_string,y_s_api_Dec,y_s_api_Mod,y_s_api_Sig]:=by kernel_rfl
theorem s1X {r:Row} (h:Has Pg e1g r):∃(k:Int) (p:List Row) (a:List Row) (b:List Row) (c:List Row),r=[.int .i64 k,.rows 1 p,.rows 9 a,.rows 5 b,.rows 5 c]∧(∀x∈p,Has Pg b1T x)∧(∀x∈a,Has Pg c1u x)∧(∀x∈b,Has Pg e1g x)∧(∀x∈c,Has Pg d1o x):=by
 have h:=h.fields s_Mod
 obtain⟨k,r,rfl,w_k,h⟩:=h.int q1m
 obtain⟨p,r,rfl,l_p,f_p,h⟩:=h.slice f1q 1 i1a
 obtain⟨a,r,rfl,l_a,f_a,h⟩:=h.slice w1N 9 i2f
 obtain⟨b,r,rfl,l_b,f_b,h⟩:=h.slice w1O 5 i2g
 obtain⟨c,r,rfl,l_c,f_c,h⟩:=h.slice q1n 5 d2s
 obtain rfl:=h.nil_inv
 exact⟨k,p,a,b,c,rfl,f_p,f_a,f_b,f_c⟩
theorem s_Sig:d1x Pg d1o=some [n1c,y_s_string,n1Q,y_s_api_Sig,y_s_api_Ty]:=by kernel_rfl
theorem s1Y {r:Row} (h:Has Pg d1o r):∃(k:Int) (p:List Row) (a:List Row) (b:List Row) (c:List Row),r=[.int .i64 k,.rows 1 p,.rows 6 a,.rows 5 b,.rows 4 c]∧(∀x∈p,Has Pg b1T x)∧(∀x∈a,Has Pg d1G x)∧(∀x∈b,Has Pg d1o x)∧(∀x∈c,Has Pg c1e x):=by
 have h:=h.fields s_Sig
 obtain⟨k,r,rfl,w_k,h⟩:=h.int q1m
 obtain⟨p,r,rfl,l_p,f_p,h⟩:=h.slice f1q 1 i1a
 obtain⟨a,r,rfl,l_a,f_a,h⟩:=h.slice f2F 6 j2V
 obtain⟨b,r,rfl,l_b,f_b,h⟩:=h.slice q1n 5 d2s
 obtain⟨c,r,rfl,l_c,f_c,h⟩:=h.slice m1r 4 c_Ty
 obtain rfl:=h.nil_inv
 exact⟨k,p,a,b,c,rfl,f_p,f_a,f_b,f_c⟩
theorem j2Z:d1x Pg d1G=some [n1c,n1c,b1T,y_s_api_Ty,y_s_api_Con,y_s_api_Sig]:=by kernel_rfl
theorem o1v {r:Row} (h:Has Pg d1G r):∃(k:Int) (o:Int) (n:ByteArray) (a:List Row) (b:List Row) (c:List Row),r=[.int .i64 k,.int .i64 o,.str n,.rows 4 a,.rows 2 b,.rows 5 c]∧(∀x∈a,Has Pg c1e x)∧(∀x∈b,Has Pg e1f x)∧(∀x∈c,Has Pg d1o x):=by
 have h:=h.fields j2Z
 obtain⟨k,r,rfl,w_k,h⟩:=h.int q1m
 obtain⟨o,r,rfl,w_o,h⟩:=h.int q1m
 obtain⟨n,r,rfl,w_n,h⟩:=h.str j1s
 obtain⟨a,r,rfl,l_a,f_a,h⟩:=h.slice m1r 4 c_Ty
 obtain⟨b,r,rfl,l_b,f_b,h⟩:=h.slice w1M 2 i2e
 obtain⟨c,r,rfl,l_c,f_c,h⟩:=h.slice q1n 5 d2s
 obtain rfl:=h.nil_inv
 exact⟨k,o,n,a,b,c,rfl,f_a,f_b,f_c⟩
theorem i2h {r:Row} (h:Has Pg c1e r):r≠[]:=by
 obtain⟨_,_,_,_,rfl,_⟩:=v1n h
 simp
theorem g2B {r:Row} (h:Has Pg c1A r):r≠[]:=by
 obtain⟨_,_,_,_,_,rfl,_⟩:=s1V h
 simp
theorem d2t {r:Row} (h:Has Pg c1z r):r≠[]:=by
 obtain⟨_,_,_,_,_,_,_,_,rfl,_⟩:=q1o h
 simp
theorem g2C {r:Row} (h:Has Pg e1f r):r≠[]:=by
 obtain⟨_,_,rfl,_⟩:=s1W h
 simp
theorem d2u {r:Row} (h:Has Pg c1u r):r≠[]:=by
 obtain⟨_,_,_,_,_,_,_,_,_,rfl,_⟩:=n1d h
 simp
theorem g2D {r:Row} (h:Has Pg e1g r):r≠[]:=by
 obtain⟨_,_,_,_,_,rfl,_⟩:=s1X h
 simp
theorem g2E {r:Row} (h:Has Pg d1o r):r≠[]:=by
 obtain⟨_,_,_,_,_,rfl,_⟩:=s1Y h
 simp
theorem d2v {r:Row} (h:Has Pg d1G r):r≠[]:=by
 obtain⟨_,_,_,_,_,_,rfl,_⟩:=o1v h
 simp
end Go.Proofs.Ck
end
