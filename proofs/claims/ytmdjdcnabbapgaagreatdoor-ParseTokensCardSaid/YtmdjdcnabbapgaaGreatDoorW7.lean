/- Texts of this proof folded into one: KZ XL1 P1 P2 P3. -/
import Derived.Test.YtmdjdcnabbapgaaGreatDoorW6
import Derived.Lib.ParseIntB
import Derived.Lib.Bytealg
section
/- TREES: words for what recurs in printed trees (by ktz.py) -/
set_option linter.unusedVariables false
open Go Go.Eng
open IntKind (wrap)
namespace Go.Proofs
abbrev zkF0:AV:=.iface a1p (.agg [])
abbrev i1i:ByteArray:=⟨#[45]⟩
abbrev i1j:ByteArray:=⟨#[43]⟩
abbrev i1k:ByteArray:=⟨#[47]⟩
abbrev i1z:ByteArray:=⟨#[60]⟩
abbrev i1A:ByteArray:=⟨#[61]⟩
abbrev zkb41:ByteArray:=⟨#[58]⟩
abbrev h2h:ByteArray:=⟨#[124]⟩
abbrev i2M:ByteArray:=⟨#[44]⟩
abbrev i2N:ByteArray:=⟨#[95]⟩
abbrev zkb37:ByteArray:=⟨#[105,110,116,32,42,32,98,111,111,108,32,45,62,32,39,97]⟩
abbrev zkb36:ByteArray:=⟨#[97,32,60,32,98,32,60,32,99]⟩
abbrev zkb35:ByteArray:=⟨#[102,32,120,32,43,32,49]⟩
abbrev y1Z:ByteArray:=⟨#[46]⟩
abbrev b2R:ByteArray:=⟨#[41]⟩
abbrev b2S:ByteArray:=⟨#[40]⟩
abbrev h1k:ByteArray:=⟨#[42]⟩
abbrev i2O:ByteArray:=⟨#[119,104,101,114,101]⟩
abbrev e2L:ByteArray:=⟨#[118,97,108]⟩
abbrev z1a:ByteArray:=⟨#[117,110,105,116]⟩
abbrev i2P:ByteArray:=⟨#[116,121,112,101]⟩
abbrev z1b:ByteArray:=⟨#[116,114,117,101]⟩
abbrev h2i:ByteArray:=⟨#[116,104,101,110]⟩
abbrev i2Q:ByteArray:=⟨#[115,116,114,117,99,116,117,114,101]⟩
abbrev i2R:ByteArray:=⟨#[115,116,114,117,99,116]⟩
abbrev i2S:ByteArray:=⟨#[115,105,103,110,97,116,117,114,101]⟩
abbrev i2T:ByteArray:=⟨#[115,105,103]⟩
abbrev h2j:ByteArray:=⟨#[111,102]⟩
abbrev e2M:ByteArray:=⟨#[108,101,116]⟩
abbrev z1c:ByteArray:=⟨#[105,110,116]⟩
abbrev e2N:ByteArray:=⟨#[105,110]⟩
abbrev h2k:ByteArray:=⟨#[105,102]⟩
abbrev i2U:ByteArray:=⟨#[102,117,110,99,116,111,114]⟩
abbrev e2O:ByteArray:=⟨#[102,117,110]⟩
abbrev h2l:ByteArray:=⟨#[102,110]⟩
abbrev z1d:ByteArray:=⟨#[102,97,108,115,101]⟩
abbrev z1e:ByteArray:=⟨#[101,110,100]⟩
abbrev h2m:ByteArray:=⟨#[101,108,115,101]⟩
abbrev zkb9:ByteArray:=⟨#[100,97,116,97]⟩
abbrev zkb8:ByteArray:=⟨#[99,97,115,101]⟩
abbrev zkb7:ByteArray:=⟨#[98,111,111,108]⟩
abbrev zkb6:ByteArray:=⟨#[40,41,44,59,58,61,42,43,45,47,60,124,95,46]⟩
abbrev zkb5:ByteArray:=⟨#[45,62]⟩
abbrev zkb4:ByteArray:=⟨#[61,62]⟩
abbrev zkb3:ByteArray:=⟨#[58,62]⟩
abbrev zkb2:ByteArray:=⟨#[]⟩
abbrev zkb1:ByteArray:=⟨#[42,41]⟩
abbrev zkb0:ByteArray:=⟨#[40,42]⟩
abbrev zkR7 (K:List (List AV)→List (List AV)→List (List AV)→List (List AV)→List (List AV)→List (List AV)→List (List AV)→KT):KT:=.exR fun v0=>.exR fun v1=>.exR fun v2=>.exR fun v3=>.exR fun v4=>.exR fun v5=>.exR fun v6=>K v0 v1 v2 v3 v4 v5 v6
abbrev zkR6 (K:List (List AV)→List (List AV)→List (List AV)→List (List AV)→List (List AV)→List (List AV)→KT):KT:=.exR fun v0=>.exR fun v1=>.exR fun v2=>.exR fun v3=>.exR fun v4=>.exR fun v5=>K v0 v1 v2 v3 v4 v5
abbrev zkR5 (K:List (List AV)→List (List AV)→List (List AV)→List (List AV)→List (List AV)→KT):KT:=.exR fun v0=>.exR fun v1=>.exR fun v2=>.exR fun v3=>.exR fun v4=>K v0 v1 v2 v3 v4
abbrev zkR4 (K:List (List AV)→List (List AV)→List (List AV)→List (List AV)→KT):KT:=.exR fun v0=>.exR fun v1=>.exR fun v2=>.exR fun v3=>K v0 v1 v2 v3
abbrev zkR3 (K:List (List AV)→List (List AV)→List (List AV)→KT):KT:=.exR fun v0=>.exR fun v1=>.exR fun v2=>K v0 v1 v2
abbrev zkR2 (K:List (List AV)→List (List AV)→KT):KT:=.exR fun v0=>.exR fun v1=>K v0 v1
abbrev zkI7 (K:Int→Int→Int→Int→Int→Int→Int→KT):KT:=.exI fun v0=>.exI fun v1=>.exI fun v2=>.exI fun v3=>.exI fun v4=>.exI fun v5=>.exI fun v6=>K v0 v1 v2 v3 v4 v5 v6
abbrev zkI6 (K:Int→Int→Int→Int→Int→Int→KT):KT:=.exI fun v0=>.exI fun v1=>.exI fun v2=>.exI fun v3=>.exI fun v4=>.exI fun v5=>K v0 v1 v2 v3 v4 v5
abbrev zkI5 (K:Int→Int→Int→Int→Int→KT):KT:=.exI fun v0=>.exI fun v1=>.exI fun v2=>.exI fun v3=>.exI fun v4=>K v0 v1 v2 v3 v4
abbrev zkI4 (K:Int→Int→Int→Int→KT):KT:=.exI fun v0=>.exI fun v1=>.exI fun v2=>.exI fun v3=>K v0 v1 v2 v3
abbrev zkI3 (K:Int→Int→Int→KT):KT:=.exI fun v0=>.exI fun v1=>.exI fun v2=>K v0 v1 v2
abbrev zkI2 (K:Int→Int→KT):KT:=.exI fun v0=>.exI fun v1=>K v0 v1
abbrev zkE:AV:=.slice 0 [] .full
abbrev zkN (n:Nat) (l:List (List AV)):AV:=.slice n l .no
abbrev zkP:AV:=.ptr 0 0
abbrev zkR (v:AV) (h:Heap):CRes:=⟨.ret v,.none,h⟩
abbrev zkQ (v:AV) (h:Heap):CRes:=⟨.panic v,.none,h⟩
abbrev zkL (n:Nat) (l:List (List AV)) (k:KT):KT:=.need (lowss n l) k
abbrev zkS (n:Nat) (t:List (Nat×AV)) (l:List (Nat×Nat×List AV)) (h:Heap) (k:Nat):St:=⟨tm2 n t,lm2 n l,⟨h,[],.none,k⟩⟩
abbrev zk1 (x0:List (List AV)) (x1 x2 x3 x4:Int):List AV:=[zkN 4 x0,vI x1,vI x2,vI x3,vI x4]
abbrev zk2 (g:FuncId) (a:List AV) (h:Heap) (x0:AV) (K:KT):KT:=.call g a .none h ⟨.panic x0,.none,h⟩ K
abbrev zk3 (g:FuncId) (a:List AV) (h:Heap) (K:KT):KT:=.call g a .none h ⟨.ret (.tuple []),.none,h⟩ K
abbrev zk5 (g:FuncId) (a:List AV) (h:Heap) (K:Bool→KT):KT:=.exB fun v0=>.call g a .none h ⟨.ret (vB v0),.none,h⟩ (K v0)
abbrev zk6 (x0:Int) (x1:ByteArray) (x2 x3:List (List AV)):List AV:=[vI x0,vS x1,zkN 1 x2,zkN 4 x3]
abbrev zk7 (x0 x1 x2:Int) (x3 x4 x5 x6 x7:List (List AV)):List AV:=[vI x0,vI x1,vI x2,zkN 1 x3,zkN 5 x4,zkN 8 x5,zkN 9 x6,zkN 4 x7]
abbrev zk8 (x0:List (List AV)) (x1 x2:Int):List AV:=[zkN 4 x0,vI x1,vI 0,vI 0,vI x2]
abbrev zk9 (x0:Int) (x1:ByteArray) (x2 x3:Int):List AV:=[vI x0,vS x1,vI x2,vI x3]
abbrev zk10:List AV:=[vI 0,vI 0,vI 0,zkE,zkE,zkE,zkE,zkE]
abbrev zk12 (g:FuncId) (a:List AV) (h:Heap) (K:List (List AV)→Int→Int→Int→Int→KT):KT:=.exR fun v0=>.exI fun v1=>.exI fun v2=>.exI fun v3=>.exI fun v4=>.call g a .none h ⟨.panic zkF0,.none,[[zkN 4 v0,vI v1,vI v2,vI v3,vI v4]]⟩ (K v0 v1 v2 v3 v4)
abbrev zk13 (x0:Int) (x1:ByteArray) (x2:List (List AV)) (x3:Int) (x4:List (List AV)):List AV:=[vI x0,vS x1,zkN 1 x2,vI x3,zkN 5 x4]
abbrev zk14 (x0 x1:ByteArray):List AV:=[vS x0,vS x1]
abbrev zk16 (g:FuncId) (a:List AV) (h:Heap) (K:Int→KT):KT:=.exI fun v0=>.call g a .none h ⟨.ret (vI v0),.none,h⟩ (K v0)
abbrev zk17 (x0:ByteArray):List AV:=[vI 0,vS x0,zkE,zkE]
abbrev zk18 (x0:ByteArray):List AV:=[vI 0,vS x0,vI 0,vI 0]
abbrev zk20 (g:FuncId) (a:List AV) (h:Heap) (K:Bool→List (List AV)→Int→Int→Int→Int→KT):KT:=.exB fun v0=>.exR fun v1=>.exI fun v2=>.exI fun v3=>.exI fun v4=>.exI fun v5=>.call g a .none h ⟨.ret (vB v0),.none,[[zkN 4 v1,vI v2,vI v3,vI v4,vI v5]]⟩ (K v0 v1 v2 v3 v4 v5)
abbrev zk23 (x0 x1 x2:Int) (x3:Nat) (x4:List (List AV)) (x5:Own) (x6:Nat) (x7:List (List AV)) (x8:Own) (x9:Nat) (x10:List (List AV)) (x11:Own) (x12:Nat) (x13:List (List AV)) (x14:Own) (x15:Nat) (x16:List (List AV)) (x17:Own):List AV:=[vI x0,vI x1,vI x2,.slice x3 x4 x5,.slice x6 x7 x8,.slice x9 x10 x11,.slice x12 x13 x14,.slice x15 x16 x17]
abbrev zk26 (g:FuncId) (a:List AV) (h:Heap) (K:Int→Int→Int→List (List AV)→List (List AV)→List (List AV)→List (List AV)→List (List AV)→List (List AV)→Int→Int→Int→Int→KT) (L:List (List AV)→Int→Int→Int→Int→KT):KT:=.alt (.exI fun v0=>.exI fun v1=>.exI fun v2=>.exR fun v3=>.exR fun v4=>.exR fun v5=>.exR fun v6=>.exR fun v7=>.exR fun v8=>.exI fun v9=>.exI fun v10=>.exI fun v11=>.exI fun v12=>.call g a .none h ⟨.ret (.agg [vI v0,vI v1,vI v2,zkN 1 v3,zkN 5 v4,zkN 8 v5,zkN 9 v6,zkN 4 v7]),.none,[[zkN 4 v8,vI v9,vI v10,vI v11,vI v12]]⟩ (K v0 v1 v2 v3 v4 v5 v6 v7 v8 v9 v10 v11 v12)) (.exR fun v0=>.exI fun v1=>.exI fun v2=>.exI fun v3=>.exI fun v4=>.call g a .none h ⟨.panic zkF0,.none,[[zkN 4 v0,vI v1,vI v2,vI v3,vI v4]]⟩ (L v0 v1 v2 v3 v4))
abbrev zk27:List (List AV)→Int→Int→Int→Int→KT:=fun v0 v1 v2 v3 v4=>.out (.ret ⟨.panic zkF0,.none,[[zkN 4 v0,vI v1,vI v2,vI v3,vI v4]]⟩)
abbrev zk28 (x0:List (List AV)) (x1 x2 x3:Int):List AV:=[zkN 4 x0,vI x1,vI 11,vI x2,vI x3]
abbrev zk29 (x0:ByteArray):List AV:=[vI 0,vS x0,zkN 1 [],zkN 4 []]
abbrev zk30 (x0:ByteArray):List AV:=[vI 0,vS x0,zkE,vI 0,zkE]
abbrev zk31 (g:FuncId) (a:List AV) (h:Heap) (K:List (List AV)→Int→Int→Int→Int→KT) (L:List (List AV)→Int→Int→Int→Int→KT):KT:=.alt (.exR fun v0=>.exI fun v1=>.exI fun v2=>.exI fun v3=>.exI fun v4=>.call g a .none h ⟨.ret (.tuple []),.none,[[zkN 4 v0,vI v1,vI v2,vI v3,vI v4]]⟩ (K v0 v1 v2 v3 v4)) (.exR fun v0=>.exI fun v1=>.exI fun v2=>.exI fun v3=>.exI fun v4=>.call g a .none h ⟨.panic zkF0,.none,[[zkN 4 v0,vI v1,vI v2,vI v3,vI v4]]⟩ (L v0 v1 v2 v3 v4))
abbrev zk32 (x0:ByteArray):List AV:=[vI 0,vI 0,vS x0,zkE,zkE,zkE,zkE,zkE,zkE]
abbrev zk33 (x0 x1 x2:Int):List AV:=[vI x0,vI x1,vI x2]
abbrev zk36:List (List AV)→Int→Int→Int→Int→KT:=fun v0 v1 v2 v3 v4=>.ret ⟨.panic zkF0,.none,[[zkN 4 v0,vI v1,vI v2,vI v3,vI v4]]⟩
abbrev zk39 (x0:Int) (x1:ByteArray) (x2 x3:List (List AV)):List AV:=[.agg [vI x0,vS x1,zkN 1 x2,zkN 4 x3]]
abbrev zk40 (x0 x1 x2:Int) (x3 x4 x5 x6 x7:AV):List AV:=[vI x0,vI x1,vI x2,x3,x4,x5,x6,x7]
abbrev zk41:List AV:=[vI 0,vI 0,vI 0,zkN 1 [],zkN 5 [],zkN 8 [],zkN 9 [],zkN 4 []]
abbrev zk42 (x0:ByteArray):List AV:=[vI 0,vS x0,zkN 1 [],vI 0,zkN 5 []]
abbrev zk43 (x0 x1:Int) (x2:ByteArray) (x3 x4 x5 x6 x7 x8:List (List AV)):List AV:=[vI x0,vI x1,vS x2,zkN 1 x3,zkN 4 x4,zkN 8 x5,zkN 2 x6,zkN 5 x7,zkN 5 x8]
abbrev zk49 (x0 x1:Int) (x2:ByteArray) (x3 x4 x5 x6 x7 x8:List (List AV)):List AV:=[vI x0,vI x1,vS x2,.slice 0 x3 .full,.slice 0 x4 .full,.slice 0 x5 .full,.slice 0 x6 .full,.slice 0 x7 .full,.slice 0 x8 .full]
abbrev zk50 (x0:Int) (x1:ByteArray) (x2:Int):List AV:=[vI x0,vS x1,vI 0,vI x2]
abbrev zk51 (x0:Int) (x1:ByteArray) (x2 x3:List (List AV)):List AV:=[.agg [vI x0,vS x1,zkN 1 x2,zkN 4 x3],vI 0,vI 0]
abbrev zk56 (x0:Int) (x1:ByteArray) (x2:List (List AV)) (x3:Int) (x4:List (List AV)):List AV:=[.agg [vI x0,vS x1,zkN 1 x2,vI x3,zkN 5 x4]]
abbrev zk58 (x0:Int) (x1:ByteArray) (x2 x3 x4:Int):List AV:=[.agg [vI x0,vS x1,vI x2,vI x3],vI x4]
abbrev zk59 (x0 x1 x2:Int) (x3 x4 x5 x6 x7:AV) (x8 x9 x10:Int) (x11 x12 x13 x14 x15:List (List AV)):List AV:=[vI 8,vI 0,vI 0,zkE,zkE,.slice 8 [[vI x0,vI x1,vI x2,x3,x4,x5,x6,x7],[vI x8,vI x9,vI x10,zkN 1 x11,zkN 5 x12,zkN 8 x13,zkN 9 x14,zkN 4 x15]] .full,zkE,zkE]
abbrev zk61 (x0:List (List AV)) (x1:Int):List AV:=[zkN 4 x0,vI x1,vI 0,vI 0,vI 0]
abbrev zk62 (g:FuncId) (a:List AV) (h:Heap) (K:Int→ByteArray→List (List AV)→Int→List (List AV)→List (List AV)→Int→Int→Int→Int→KT) (L:List (List AV)→Int→Int→Int→Int→KT):KT:=.alt (.exI fun v0=>.exS fun v1=>.exR fun v2=>.exI fun v3=>.exR fun v4=>.exR fun v5=>.exI fun v6=>.exI fun v7=>.exI fun v8=>.exI fun v9=>.call g a .none h ⟨.ret (.agg [vI v0,vS v1,zkN 1 v2,vI v3,zkN 5 v4]),.none,[[zkN 4 v5,vI v6,vI v7,vI v8,vI v9]]⟩ (K v0 v1 v2 v3 v4 v5 v6 v7 v8 v9)) (.exR fun v0=>.exI fun v1=>.exI fun v2=>.exI fun v3=>.exI fun v4=>.call g a .none h ⟨.panic zkF0,.none,[[zkN 4 v0,vI v1,vI v2,vI v3,vI v4]]⟩ (L v0 v1 v2 v3 v4))
abbrev zk63 (g:FuncId) (a:List AV) (h:Heap) (K:Int→ByteArray→List (List AV)→List (List AV)→List (List AV)→Int→Int→Int→Int→KT) (L:List (List AV)→Int→Int→Int→Int→KT):KT:=.alt (.exI fun v0=>.exS fun v1=>.exR fun v2=>.exR fun v3=>.exR fun v4=>.exI fun v5=>.exI fun v6=>.exI fun v7=>.exI fun v8=>.call g a .none h ⟨.ret (.agg [vI v0,vS v1,zkN 1 v2,zkN 4 v3]),.none,[[zkN 4 v4,vI v5,vI v6,vI v7,vI v8]]⟩ (K v0 v1 v2 v3 v4 v5 v6 v7 v8)) (.exR fun v0=>.exI fun v1=>.exI fun v2=>.exI fun v3=>.exI fun v4=>.call g a .none h ⟨.panic zkF0,.none,[[zkN 4 v0,vI v1,vI v2,vI v3,vI v4]]⟩ (L v0 v1 v2 v3 v4))
abbrev zk64 (g:FuncId) (a:List AV) (h:Heap) (K:ByteArray→List (List AV)→Int→Int→Int→Int→KT) (L:List (List AV)→Int→Int→Int→Int→KT):KT:=.alt (.exS fun v0=>.exR fun v1=>.exI fun v2=>.exI fun v3=>.exI fun v4=>.exI fun v5=>.call g a .none h ⟨.ret (vS v0),.none,[[zkN 4 v1,vI v2,vI v3,vI v4,vI v5]]⟩ (K v0 v1 v2 v3 v4 v5)) (.exR fun v0=>.exI fun v1=>.exI fun v2=>.exI fun v3=>.exI fun v4=>.call g a .none h ⟨.panic zkF0,.none,[[zkN 4 v0,vI v1,vI v2,vI v3,vI v4]]⟩ (L v0 v1 v2 v3 v4))
abbrev zk67 (x0 x1 x2:Int) (x3 x4 x5 x6 x7:List (List AV)):List AV:=[.agg [vI x0,vI x1,vI x2,zkN 1 x3,zkN 5 x4,zkN 8 x5,zkN 9 x6,zkN 4 x7]]
abbrev zk70 (g:FuncId) (a:List AV) (h:Heap) (K:Int→Bool→KT):KT:=.exI fun v0=>.exB fun v1=>.call g a .none h ⟨.ret (.tuple [vI v0,vB v1]),.none,h⟩ (K v0 v1)
abbrev zk71 (x0:ByteArray) (x1 x2:Int):List AV:=[.agg [vI 0,vS x0,zkN 1 [],zkN 4 []],vI x1,vI x2]
abbrev zk74 (x0:Int):List AV:=[zkN 4 [],vI x0,vI 10]
abbrev zk78 (g:FuncId) (a:List AV) (h:Heap) (K:Bool→Bool→Bool→Bool→Bool→Bool→KT):KT:=.exB fun v0=>.exB fun v1=>.exB fun v2=>.exB fun v3=>.exB fun v4=>.exB fun v5=>.call g a .none h ⟨.ret (.agg [vB v0,vB v1,vB v2,vB v3,vB v4,vB v5]),.none,h⟩ (K v0 v1 v2 v3 v4 v5)
abbrev zk79 (g:FuncId) (a:List AV) (h:Heap) (K:Int→ByteArray→Int→Int→Int→KT):KT:=.exI fun v0=>.exS fun v1=>.exI fun v2=>.exI fun v3=>.exI fun v4=>.call g a .none h ⟨.ret (.tuple [.agg [vI v0,vS v1,vI v2,vI v3],vI v4]),.none,h⟩ (K v0 v1 v2 v3 v4)
abbrev zk82:List AV:=[.agg [vI 0,vI 0,vI 0,zkN 1 [],zkN 5 [],zkN 8 [],zkN 9 [],zkN 4 []],vI 0,vI 4]
abbrev zk83 (x0:ByteArray):List AV:=[.agg [vI 0,vS x0,zkN 1 [],zkN 4 []],vI 0,vI 4]
abbrev zk84 (x0 x1 x2:Int) (x3 x4 x5 x6 x7:List (List AV)):List AV:=[.agg [vI x0,vI x1,vI x2,zkN 1 x3,zkN 5 x4,zkN 8 x5,zkN 9 x6,zkN 4 x7],vI 0,vI 0]
abbrev zk88 (g:FuncId) (a:List AV) (h:Heap) (K:List (List AV)→Int→Int→KT):KT:=.exR fun v0=>.exI fun v1=>.exI fun v2=>.call g a .none h ⟨.ret (.tuple [zkN 4 v0,vI v1,vI v2]),.none,h⟩ (K v0 v1 v2)
abbrev zk89 (g:FuncId) (a:List AV) (h:Heap) (K:List (List AV)→List (List AV)→Int→Int→Int→Int→KT):KT:=.exR fun v0=>.exR fun v1=>.exI fun v2=>.exI fun v3=>.exI fun v4=>.exI fun v5=>.call g a .none h ⟨.ret (zkN 1 v0),.none,[[zkN 4 v1,vI v2,vI v3,vI v4,vI v5]]⟩ (K v0 v1 v2 v3 v4 v5)
abbrev zk91 (x0:ByteArray) (x1:Int):List AV:=[.agg [vI 6,vS x0,vI 0,vI x1],vI 0]
abbrev zk92 (x0 x1:Int) (x2:ByteArray) (x3 x4 x5 x6 x7 x8:List (List AV)):List AV:=[.agg [vI x0,vI x1,vS x2,zkN 1 x3,zkN 4 x4,zkN 8 x5,zkN 2 x6,zkN 5 x7,zkN 5 x8]]
abbrev zk94 (x0:List (List AV)):List AV:=[vI 10,vI 0,vI 0,zkE,zkE,zkE,.slice 9 x0 .yes,zkE]
abbrev zk95 (x0 x1:ByteArray):List AV:=[vI 2,vS x0,zkN 1 [[vS x1]],zkN 4 []]
abbrev zk96 (x0:List (List AV)):List AV:=[vI 5,vI 0,vI 0,zkN 1 x0,zkN 5 [],zkN 8 [],zkN 9 [],zkN 4 []]
abbrev zk97 (x0:List (List AV)):List AV:=[vI 6,vI 0,vI 0,zkN 1 x0,zkN 5 [],zkN 8 [],zkN 9 [],zkN 4 []]
abbrev zk98:List AV:=[zkP,vB false,vB true]
abbrev zk99:List AV:=[zkP,vB true,vB true]
abbrev e2P (g:FuncId) (a:List AV) (h:Heap) (K:Int→Int→ByteArray→List (List AV)→List (List AV)→List (List AV)→List (List AV)→List (List AV)→List (List AV)→List (List AV)→Int→Int→Int→Int→KT) (L:List (List AV)→Int→Int→Int→Int→KT):KT:=.alt (.exI fun v0=>.exI fun v1=>.exS fun v2=>.exR fun v3=>.exR fun v4=>.exR fun v5=>.exR fun v6=>.exR fun v7=>.exR fun v8=>.exR fun v9=>.exI fun v10=>.exI fun v11=>.exI fun v12=>.exI fun v13=>.call g a .none h ⟨.ret (.agg [vI v0,vI v1,vS v2,zkN 1 v3,zkN 4 v4,zkN 8 v5,zkN 2 v6,zkN 5 v7,zkN 5 v8]),.none,[[zkN 4 v9,vI v10,vI v11,vI v12,vI v13]]⟩ (K v0 v1 v2 v3 v4 v5 v6 v7 v8 v9 v10 v11 v12 v13)) (.exR fun v0=>.exI fun v1=>.exI fun v2=>.exI fun v3=>.exI fun v4=>.call g a .none h ⟨.panic zkF0,.none,[[zkN 4 v0,vI v1,vI v2,vI v3,vI v4]]⟩ (L v0 v1 v2 v3 v4))
abbrev e2Q (g:FuncId) (a:List AV) (h:Heap) (K:List (List AV)→Bool→List (List AV)→Int→Int→Int→Int→KT) (L:List (List AV)→Int→Int→Int→Int→KT):KT:=.alt (.exR fun v0=>.exB fun v1=>.exR fun v2=>.exI fun v3=>.exI fun v4=>.exI fun v5=>.exI fun v6=>.call g a .none h ⟨.ret (.tuple [zkN 1 v0,vB v1]),.none,[[zkN 4 v2,vI v3,vI v4,vI v5,vI v6]]⟩ (K v0 v1 v2 v3 v4 v5 v6)) (.exR fun v0=>.exI fun v1=>.exI fun v2=>.exI fun v3=>.exI fun v4=>.call g a .none h ⟨.panic zkF0,.none,[[zkN 4 v0,vI v1,vI v2,vI v3,vI v4]]⟩ (L v0 v1 v2 v3 v4))
abbrev e2R:List (List AV)→Int→Int→Int→Int→KT:=fun v0 v1 v2 v3 v4=>.out (.out (.ret ⟨.panic zkF0,.none,[[zkN 4 v0,vI v1,vI v2,vI v3,vI v4]]⟩))
abbrev i2V (x0:ByteArray):List AV:=[.agg [vI 0,vS x0,zkN 1 [],zkN 4 []],vI 0,vI 0]
abbrev zk108 (x0:ByteArray):List AV:=[vI 0,vI 0,vS x0,zkN 1 [],zkN 4 [],zkN 8 [],zkN 2 [],zkN 5 [],zkN 5 []]
abbrev i2W (x0 x1:List (List AV)):List AV:=[vI 12,vI 0,vI 0,zkE,.slice 5 x0 .yes,.slice 8 x1 .yes,zkE,zkE]
abbrev zk110 (g:FuncId) (a:List AV) (h:Heap) (x0:List (List AV)) (x1 x2 x3 x4 x5 x6:Int) (x7:ByteArray) (x8 x9 x10 x11 x12 x13:List (List AV)) (K:KT):KT:=.call g a .none h ⟨.panic zkF0,.none,[[zkN 4 x0,vI x1,vI x2,vI x3,vI x4],[vI x5,vI x6,vS x7,.slice 0 x8 .full,.slice 0 x9 .full,.slice 0 x10 .full,.slice 0 x11 .full,.slice 0 x12 .full,.slice 0 x13 .full]]⟩ K
abbrev zk111 (g:FuncId) (a:List AV) (h:Heap) (x0:Int) (x1:ByteArray) (x2 x3:List (List AV)) (x4 x5:Int) (K:KT):KT:=.call g a .none h ⟨.ret (.tuple [.agg [vI x0,vS x1,zkN 1 x2,zkN 4 x3],vI x4,vI x5]),.none,h⟩ K
abbrev i2X:List AV:=[.agg [vI 0,vI 0,vI 0,zkN 1 [],zkN 5 [],zkN 8 [],zkN 9 [],zkN 4 []],vI 0,vI 0]
abbrev i2Y:List AV:=[.agg [vI 0,vI 0,vI 0,zkN 1 [],zkN 5 [],zkN 8 [],zkN 9 [],zkN 4 []],vI 0,vI 2]
abbrev i2Z (x0 x1:Int):List AV:=[.agg [vI 0,vI 0,vI 0,zkN 1 [],zkN 5 [],zkN 8 [],zkN 9 [],zkN 4 []],vI x0,vI x1]
abbrev zk115:List AV:=[vI 2,vI 0,vI 0,zkN 1 [],zkN 5 [],zkN 8 [],zkN 9 [],zkN 4 []]
abbrev zk116:List AV:=[vI 3,vI 0,vI 0,zkN 1 [],zkN 5 [],zkN 8 [],zkN 9 [],zkN 4 []]
abbrev zk117:List AV:=[vI 4,vI 0,vI 0,zkN 1 [],zkN 5 [],zkN 8 [],zkN 9 [],zkN 4 []]
end Go.Proofs
end

section
/- LEX: trees, printed by kt.py out of x1.txt -/
open Go Go.Eng
open IntKind (wrap)
namespace Go.Proofs
set_option linter.unusedVariables false
set_option maxRecDepth 100000
@[irreducible] noncomputable def d2V (s:ByteArray) (a:Nat) (g:FuncId):KT:=kt3 e1Q [vS s,vI a,.func (.func g) [] []] []
@[irreducible] noncomputable def t1y (s:ByteArray) (a:Nat):KT:=kt3 f1k [vS s,vI a] []
@[irreducible] noncomputable def q1v (s:ByteArray) (a:Nat):KT:=kt3 d1R [vS s,vI a] []
@[irreducible] noncomputable def x1h (s:ByteArray) (a:Nat) (y:UInt8) (b b1 b2 b3 b4 b5:Bool):KT:=((((((((kt3 g1t [vS s,vI a] []).Y y).T.B b).B b1).B b2).B b3).B b4).B b5).T.K (zkS 113 [(0,vS s),(1,vI (↑a:Int)),(4,.lp 4 0 0)] [(4,0,zk18 zkb2)] [] 0)
@[irreducible] noncomputable def a2H (s:ByteArray):KT:=(kt3 c1N [vS s] []).F
theorem q1T (s p:ByteArray):kt3 b1q [vS s,vS p] []=
 .branch (decide ((↑s.size:Int)≥(↑p.size:Int))) (.need (decide ((0:Int)≤0∧0≤(↑p.size:Int)∧(↑p.size:Int)≤(↑s.size:Int))) (.need true (.need true (.ret (zkR (vB ((s.extract (Int.toNat 0) (↑p.size:Int).toNat).toList==p.toList)) []))))) (.need true (.need true (.ret (zkR (vB false) [])))):=by kernel_rfl
theorem a2I (s:ByteArray) (a i:Nat):KT.round Pg cfg0 rs0 kc3 (d2V s a f1o) (zkS 22 [(0,vS s),(1,vI (↑i:Int)),(2,(.func (Fn.func f1o) [] []))] [] [] 0)=
 .branch (decide ((↑i:Int)<(↑s.size:Int))) (.exY fun y=>.byte s (↑i:Int) y (zk78 c1P [(.val (.int .u8 ((↑y.toNat:Int))))] [] (fun b b1 b2 b3 b4 b5=>.need true (.branch b3 (.done (zkS 22 [(0,vS s),(1,vI (wrap .i64 ((↑i:Int)+1))),(2,(.func (.func f1o) [] []))] [] [] 0)) (.out (.need true (.ret (zkR (vI (↑i:Int)) [])))))))) (.out (.need true (.ret (zkR (vI (↑i:Int)) [])))):=by kernel_rfl
theorem a2J (s:ByteArray) (a i:Nat):KT.round Pg cfg0 rs0 kc3 (d2V s a g1b) (zkS 22 [(0,vS s),(1,vI (↑i:Int)),(2,(.func (Fn.func g1b) [] []))] [] [] 0)=
 .branch (decide ((↑i:Int)<(↑s.size:Int))) (.exY fun y=>.byte s (↑i:Int) y (zk78 c1P [(.val (.int .u8 ((↑y.toNat:Int))))] [] (fun b b1 b2 b3 b4 b5=>.need true (.branch b2 (.done (zkS 22 [(0,vS s),(1,vI (wrap .i64 ((↑i:Int)+1))),(2,(.func (.func g1b) [] []))] [] [] 0)) (.out (.need true (.ret (zkR (vI (↑i:Int)) [])))))))) (.out (.need true (.ret (zkR (vI (↑i:Int)) [])))):=by kernel_rfl
theorem a2K (s:ByteArray) (a i:Nat):KT.round Pg cfg0 rs0 kc3 (d2V s a g1c) (zkS 22 [(0,vS s),(1,vI (↑i:Int)),(2,(.func (Fn.func g1c) [] []))] [] [] 0)=
 .branch (decide ((↑i:Int)<(↑s.size:Int))) (.exY fun y=>.byte s (↑i:Int) y (zk78 c1P [(.val (.int .u8 ((↑y.toNat:Int))))] [] (fun b b1 b2 b3 b4 b5=>.need true (.branch b4 (.done (zkS 22 [(0,vS s),(1,vI (wrap .i64 ((↑i:Int)+1))),(2,(.func (.func g1c) [] []))] [] [] 0)) (.out (.need true (.ret (zkR (vI (↑i:Int)) [])))))))) (.out (.need true (.ret (zkR (vI (↑i:Int)) [])))):=by kernel_rfl
theorem v1v (s:ByteArray) (a i d:Nat):KT.round Pg cfg0 rs0 kc3 (t1y s a) (zkS 33 [(0,vS s),(1,vI (↑i:Int)),(5,vI (↑d:Int))] [] [] 0)=
 .branch (decide ((↑i:Int)<(↑s.size:Int))) (.need (decide (0≤(↑i:Int)∧(↑i:Int)≤(↑s.size:Int)∧(↑s.size:Int)≤(↑s.size:Int))) (zk5 b1q (zk14 (s.extract (↑i:Int).toNat (↑s.size:Int).toNat) zkb0) [] (fun b=>.branch b (.done (zkS 33 [(0,vS s),(1,vI (wrap .i64 ((↑i:Int)+2))),(5,vI (wrap .i64 ((↑d:Int)+1)))] [] [] 0)) (.need (decide (0≤(↑i:Int)∧(↑i:Int)≤(↑s.size:Int)∧(↑s.size:Int)≤(↑s.size:Int))) (zk5 b1q (zk14 (s.extract (↑i:Int).toNat (↑s.size:Int).toNat) zkb1) [] (fun b1=>.branch b1 (.branch (wrap .i64 ((↑d:Int)-1)==0) (.out (.need true (.ret (zkR (vI (wrap .i64 ((↑i:Int)+2))) [])))) (.done (zkS 33 [(0,vS s),(1,vI (wrap .i64 ((↑i:Int)+2))),(5,vI (wrap .i64 ((↑d:Int)-1)))] [] [] 0))) (.done (zkS 33 [(0,vS s),(1,vI (wrap .i64 ((↑i:Int)+1))),(5,vI (↑d:Int))] [] [] 0)))))))) (.out (.need true (.ret (zkR (vI (-1)) [])))):=by kernel_rfl
theorem t1z (s:ByteArray) (a i:Nat):KT.round Pg cfg0 rs0 kc3 (q1v s a) (zkS 33 [(0,vS s),(1,vI (↑i:Int))] [] [] 0)=
 .branch (decide ((↑i:Int)<(↑s.size:Int))) (.exY fun y=>.byte s (↑i:Int) y (zk78 c1P [(.val (.int .u8 ((↑y.toNat:Int))))] [] (fun b b1 b2 b3 b4 b5=>.branch b5 (.done (zkS 33 [(0,vS s),(1,vI (wrap .i64 ((↑i:Int)+1)))] [] [] 0)) (.need (decide (0≤(↑i:Int)∧(↑i:Int)≤(↑s.size:Int)∧(↑s.size:Int)≤(↑s.size:Int))) (zk5 b1q (zk14 (s.extract (↑i:Int).toNat (↑s.size:Int).toNat) zkb0) [] (fun b6=>.branch b6 (zk16 f1k [vS s,vI (↑i:Int)] [] (fun i1=>.branch (decide (i1<0)) (.out (.need true (.ret (zkR (.tuple [vI (↑i:Int),vB false]) [])))) (.done (zkS 33 [(0,vS s),(1,vI i1)] [] [] 0)))) (.out (.need true (.ret (zkR (.tuple [vI (↑i:Int),vB true]) [])))))))))) (.out (.need true (.ret (zkR (.tuple [vI (↑i:Int),vB true]) [])))):=by kernel_rfl
@[irreducible] noncomputable def d2W (s:ByteArray) (a:Nat) (b:Bool):KT:=kt3 g1a [vS s,vI (↑a:Int),vB b] []
theorem d2X (s:ByteArray) (a:Nat) (b:Bool):kt3 g1a [vS s,vI (↑a:Int),vB b] []=
 zk16 e1Q [vS s,vI (↑a:Int),(.func (.func f1o) [] [])] [] (fun i=>.need (decide (0≤(↑a:Int)∧(↑a:Int)≤i∧i≤(↑s.size:Int))) (.stage (.branch b (.done (zkS 29 [(6,.lp 6 0 0),(8,.lp 8 0 0)] [(6,0,zk18 zkb2),(8,0,[vI 2,vS (s.extract (↑a:Int).toNat i.toNat),vI 0,vI (↑a:Int)])] [] 0)) (zk5 b1X [vS (s.extract (↑a:Int).toNat i.toNat)] [] (fun b1=>.branch b1 (.done (zkS 29 [(6,.lp 6 0 0),(8,.lp 8 0 0)] [(6,0,zk18 zkb2),(8,0,[vI 3,vS (s.extract (↑a:Int).toNat i.toNat),vI 0,vI (↑a:Int)])] [] 0)) (.done (zkS 29 [(6,.lp 6 0 0),(8,.lp 8 0 0)] [(6,0,zk18 zkb2),(8,0,[vI 1,vS (s.extract (↑a:Int).toNat i.toNat),vI 0,vI (↑a:Int)])] [] 0))))) (((d2W s a b).I i).T.T.K))):=by kernel_rfl
theorem x1i (s:ByteArray) (a:Nat) (b:Bool) (i q1x0):((d2W s a b).I i).T.T.K (zkS 29 [(6,.lp 6 0 0),(8,.lp 8 0 0)] [(6,0,zk18 zkb2),(8,0,zk50 q1x0 (s.extract (↑a:Int).toNat i.toNat) (↑a:Int))] [] 0)=
 .branch (decide ((↑(s.extract (↑a:Int).toNat i.toNat).size:Int)>32)) (.need true (.ret (zkR (.tuple [.agg (zk18 zkb2),vI 12]) []))) (.need true (.ret (zkR (.tuple [.agg (zk50 q1x0 (s.extract (↑a:Int).toNat i.toNat) (↑a:Int)),vI 0]) []))):=by kernel_rfl
@[irreducible] noncomputable def d2Y (s:ByteArray) (a:Nat):KT:=kt3 g1t [vS s,vI (↑a:Int)] []
theorem f2Y (s:ByteArray) (a:Nat):kt3 g1t [vS s,vI (↑a:Int)] []=
 .exY fun y=>.byte s (↑a:Int) y (zk78 c1P [(.val (.int .u8 ((↑y.toNat:Int))))] [] (fun b b1 b2 b3 b4 b5=>.stage (.branch b (zk79 g1a [vS s,vI (↑a:Int),vB b1] [] (fun i s1 i1 i2 i3=>.out (.need true (.ret (zkR (.tuple (zk58 i s1 i1 i2 i3)) []))))) (.branch b1 (zk79 g1a [vS s,vI (↑a:Int),vB b1] [] (fun i s1 i1 i2 i3=>.out (.need true (.ret (zkR (.tuple (zk58 i s1 i1 i2 i3)) []))))) (.branch b2 (zk16 e1Q [vS s,vI (↑a:Int),(.func (.func g1b) [] [])] [] (fun i=>.need (decide (0≤(↑a:Int)∧(↑a:Int)≤i∧i≤(↑s.size:Int))) (.exI fun i1=>.alt (.call c1J [vS (s.extract (↑a:Int).toNat i.toNat),vI 10,vI 64] .none [] (zkR (.tuple [vI i1,(.val .nilIface)]) []) (.branch (!true) (.out (.need true (.ret (zkR (.tuple [.agg (zk18 zkb2),vI 1]) [])))) (.out (.need true (.ret (zkR (.tuple [.agg [vI 4,vS (s.extract (↑a:Int).toNat i.toNat),vI i1,vI (↑a:Int)],vI 0]) [])))))) (.call c1J [vS (s.extract (↑a:Int).toNat i.toNat),vI 10,vI 64] .none [] (zkR (.tuple [vI i1,(.iface c1b .any)]) []) (.branch (!false) (.out (.need true (.ret (zkR (.tuple [.agg (zk18 zkb2),vI 1]) [])))) (.out (.need true (.ret (zkR (.tuple [.agg [vI 4,vS (s.extract (↑a:Int).toNat i.toNat),vI i1,vI (↑a:Int)],vI 0]) []))))))))) (.exY fun y1=>.byte s (↑a:Int) y1 (.branch ((↑y1.toNat:Int)==39) (zk16 e1Q [vS s,vI (wrap .i64 ((↑a:Int)+1)),(.func (.func g1c) [] [])] [] (fun i=>.stage (.branch (i==wrap .i64 ((↑a:Int)+1)) (.out (.out (.need true (.ret (zkR (.tuple [.agg (zk18 zkb2),vI 10]) []))))) (.exY fun y2=>.byte s (wrap .i64 ((↑a:Int)+1)) y2 (zk78 c1P [(.val (.int .u8 ((↑y2.toNat:Int))))] [] (fun b6 b7 b8 b9 b10 b11=>.branch (!b6) (.out (.out (.need true (.ret (zkR (.tuple [.agg (zk18 zkb2),vI 10]) []))))) (.done (zkS 113 [(0,vS s),(1,vI (↑a:Int)),(4,.lp 4 0 0),(10,vI i)] [(4,0,zk18 zkb2)] [] 0)))))) (((((((((((d2Y s a).Y y).T.B b).B b1).B b2).B b3).B b4).B b5).T.T.F.F.F.Y y1).T.T.I i).T.K))) (.done (zkS 113 [(0,vS s),(1,vI (↑a:Int)),(4,.lp 4 0 0)] [(4,0,zk18 zkb2)] [] 0))))))) (((((((((d2Y s a).Y y).T.B b).B b1).B b2).B b3).B b4).B b5).T.K))):=by kernel_rfl
theorem a2L (s:ByteArray) (a:Nat) (y:UInt8) (b b1 b2 b3 b4 b5:Bool) (y1:UInt8) (i):((((((((((d2Y s a).Y y).T.B b).B b1).B b2).B b3).B b4).B b5).T.T.F.F.F.Y y1).T.T.I i).T.K (zkS 113 [(0,vS s),(1,vI (↑a:Int)),(4,.lp 4 0 0),(10,vI i)] [(4,0,zk18 zkb2)] [] 0)=
 .branch (decide (wrap .i64 (i-(↑a:Int))>32)) (.out (.need true (.ret (zkR (.tuple [.agg (zk18 zkb2),vI 12]) [])))) (.need (decide (0≤(↑a:Int)∧(↑a:Int)≤i∧i≤(↑s.size:Int))) (.out (.need true (.ret (zkR (.tuple [.agg [vI 5,vS (s.extract (↑a:Int).toNat i.toNat),vI 0,vI (↑a:Int)],vI 0]) []))))):=by kernel_rfl
theorem d2Z (s:ByteArray) (a:Nat) (y:UInt8) (b b1 b2 b3 b4 b5:Bool) (i:Nat):KT.round Pg cfg0 rs0 kc3 (x1h s a y b b1 b2 b3 b4 b5) (zkS 113 [(0,vS s),(1,vI (↑a:Int)),(4,.lp 4 0 0),(84,.slice 1 [[vS zkb3],[vS zkb4],[vS zkb5]] .full),(85,vI 3),(86,vI (↑i:Int))] [(4,0,zk18 zkb2)] [] 0)=
 .branch (decide ((↑i:Int)<3)) (.exS fun s1=>.row [[vS zkb3],[vS zkb4],[vS zkb5]] (↑i:Int) [vS s1] (.need (decide (0≤(↑a:Int)∧(↑a:Int)≤(↑s.size:Int)∧(↑s.size:Int)≤(↑s.size:Int))) (zk5 b1q (zk14 (s.extract (↑a:Int).toNat (↑s.size:Int).toNat) s1) [] (fun b6=>.branch b6 (.out (.need true (.ret (zkR (.tuple (zk91 s1 (↑a:Int))) [])))) (.done (zkS 113 [(0,vS s),(1,vI (↑a:Int)),(4,.lp 4 0 0),(84,.slice 1 [[vS zkb3],[vS zkb4],[vS zkb5]] .full),(85,vI 3),(86,vI (wrap .i64 ((↑i:Int)+1)))] [(4,0,zk18 zkb2)] [] 0)))))) (.out (.exY fun y1=>.byte s (↑a:Int) y1 (zk5 c1y [vS zkb6,(.val (.int .i32 (IntKind.i32.wrap (↑y1.toNat:Int))))] [] (fun b6=>.branch (!b6) (.need true (.ret (zkR (.tuple [.agg (zk18 zkb2),vI 10]) []))) (.need (decide (0≤(↑a:Int)∧(↑a:Int)≤wrap .i64 ((↑a:Int)+1)∧wrap .i64 ((↑a:Int)+1)≤(↑s.size:Int))) (.need true (.ret (zkR (.tuple (zk91 (s.extract (↑a:Int).toNat (wrap .i64 ((↑a:Int)+1)).toNat) (↑a:Int))) [])))))))):=by kernel_rfl
@[irreducible] noncomputable def i2s (s:ByteArray):KT:=kt3 c1N [vS s] []
theorem f2Z (s:ByteArray):kt3 c1N [vS s] []=
 .branch (decide ((↑s.size:Int)>4096)) (.need true (.ret (zkR (.tuple [zkN 4 [],vI 0,vI 3]) []))) ((i2s s).F):=by kernel_rfl
@[irreducible] noncomputable def g2O (s:ByteArray) (l:List (List AV)) (i:Nat):KT:=KT.round Pg cfg0 rs0 kc3 (a2H s) (zkS 54 [(0,vS s),(5,.slice 4 l .yes),(6,vI (↑i:Int))] [] [] 0)
theorem e2a (s:ByteArray) (l) (i:Nat):KT.round Pg cfg0 rs0 kc3 (a2H s) (zkS 54 [(0,vS s),(5,.slice 4 l .yes),(6,vI (↑i:Int))] [] [] 0)=
 zk70 d1R [vS s,vI (↑i:Int)] [] (fun i1 b=>.branch (!b) (.out (.need true (.ret (zkR (.tuple (zk74 i1)) [])))) (.branch (i1==(↑s.size:Int)) (.out (.need true (.ret (zkR (.tuple [zkN 4 l,vI 0,vI 0]) [])))) (zk79 g1t [vS s,vI i1] [] (fun i2 s1 i3 i4 i5=>.stage (.branch (i5==0) (.branch ((↑l.length:Int)==1024) (.done (zkS 54 [(0,vS s),(5,.slice 4 l .yes),(7,vI i1),(9,.lp 9 0 0),(10,vI 3)] [(9,0,zk9 i2 s1 i3 i4)] [] 0)) (.done (zkS 54 [(0,vS s),(5,.slice 4 l .yes),(7,vI i1),(9,.lp 9 0 0),(10,vI i5)] [(9,0,zk9 i2 s1 i3 i4)] [] 0))) (.done (zkS 54 [(0,vS s),(5,.slice 4 l .yes),(7,vI i1),(9,.lp 9 0 0),(10,vI i5)] [(9,0,zk9 i2 s1 i3 i4)] [] 0))) (((((((((g2O s l i).I i1).B b).T.F.F.I i2).S s1).I i3).I i4).I i5).T.K))))):=by kernel_rfl
theorem l1v (s:ByteArray) (l) (i:Nat) (i1) (b:Bool) (i2) (s1:ByteArray) (i3 i4 i5 q1x0):((((((((g2O s l i).I i1).B b).T.F.F.I i2).S s1).I i3).I i4).I i5).T.K (zkS 54 [(0,vS s),(5,.slice 4 l .yes),(7,vI i1),(9,.lp 9 0 0),(10,vI q1x0)] [(9,0,zk9 i2 s1 i3 i4)] [] 0)=
 .branch (q1x0 !=0) (.out (.need true (.ret (zkR (.tuple [zkN 4 [],vI i1,vI q1x0]) [])))) (.need ((l.length+1).ble 2147483648) (.done (zkS 54 [(0,vS s),(5,.slice 4 (l++List.map (fun x=>List.map AV.dis x) [[(AV.val (Value.int IntKind.i64 i2)).dis.dis,(AV.val (Value.string s1)).dis.dis,(AV.val (Value.int IntKind.i64 i3)).dis.dis,(AV.val (Value.int IntKind.i64 i4)).dis.dis]]) .yes),(6,vI (wrap .i64 (i1+(↑s1.size:Int))))] [] [] 0))):=by kernel_rfl
@[irreducible] noncomputable def e2b (s:ByteArray) (i:Nat):KT:=KT.round Pg cfg0 rs0 kc3 (a2H s) (zkS 54 [(0,vS s),(5,zkE),(6,vI (↑i:Int))] [] [] 0)
theorem a2M (s:ByteArray) (i:Nat):KT.round Pg cfg0 rs0 kc3 (a2H s) (zkS 54 [(0,vS s),(5,zkE),(6,vI (↑i:Int))] [] [] 0)=
 zk70 d1R [vS s,vI (↑i:Int)] [] (fun i1 b=>.branch (!b) (.out (.need true (.ret (zkR (.tuple (zk74 i1)) [])))) (.branch (i1==(↑s.size:Int)) (.out (.need true (.ret (zkR (.tuple [zkN 4 [],vI 0,vI 0]) [])))) (zk79 g1t [vS s,vI i1] [] (fun i2 s1 i3 i4 i5=>.stage (.branch (i5==0) (.branch ((↑([]:List (List AV)).length:Int)==1024) (.done (zkS 54 [(0,vS s),(5,zkE),(7,vI i1),(9,.lp 9 0 0),(10,vI 3)] [(9,0,zk9 i2 s1 i3 i4)] [] 0)) (.done (zkS 54 [(0,vS s),(5,zkE),(7,vI i1),(9,.lp 9 0 0),(10,vI i5)] [(9,0,zk9 i2 s1 i3 i4)] [] 0))) (.done (zkS 54 [(0,vS s),(5,zkE),(7,vI i1),(9,.lp 9 0 0),(10,vI i5)] [(9,0,zk9 i2 s1 i3 i4)] [] 0))) (((((((((e2b s i).I i1).B b).T.F.F.I i2).S s1).I i3).I i4).I i5).T.K))))):=by kernel_rfl
theorem n1R (s:ByteArray) (i:Nat) (i1) (b:Bool) (i2) (s1:ByteArray) (i3 i4 i5 q1x0):((((((((e2b s i).I i1).B b).T.F.F.I i2).S s1).I i3).I i4).I i5).T.K (zkS 54 [(0,vS s),(5,zkE),(7,vI i1),(9,.lp 9 0 0),(10,vI q1x0)] [(9,0,zk9 i2 s1 i3 i4)] [] 0)=
 .branch (q1x0 !=0) (.out (.need true (.ret (zkR (.tuple [zkN 4 [],vI i1,vI q1x0]) [])))) (.need true (.done (zkS 54 [(0,vS s),(5,.slice 4 [zk9 i2 s1 i3 i4] .yes),(6,vI (wrap .i64 (i1+(↑s1.size:Int))))] [] [] 0))):=by kernel_rfl
end Go.Proofs
end

section
/- LEX, plain: what a text's tokens are, over lists of bytes. -/
set_option linter.unusedVariables false
set_option linter.unusedSimpArgs false
namespace Go.Lx
def low (c:UInt8):Bool:=decide (97≤c)&&decide (c≤122)
def high (c:UInt8):Bool:=decide (65≤c)&&decide (c≤90)
def digit (c:UInt8):Bool:=decide (48≤c)&&decide (c≤57)
def i1l (c:UInt8):Bool:=c==32||(c==9||(c==10||c==13))
def i1m (c:UInt8):Bool:=low c||(high c||(digit c||c==95))
def tyvB (c:UInt8):Bool:=low c||digit c
abbrev T:=List UInt8
def span (p:UInt8→Bool):T→Nat
 |[]=>0
 |c::l=>if p c then span p l+1 else 0
def opens:T→Bool
 |40::42::_=>true
 |_=>false
def f1g:T→Bool
 |42::41::_=>true
 |_=>false
def rem (l:T) (d:Nat):Option Nat:=
 match l with
 |[]=>none
 |c::r=>
  if opens (c::r) then (rem (r.drop 1) (d+1)).map (· +2)
  else if f1g (c::r) then (if d≤1 then some 2 else (rem (r.drop 1) (d-1)).map (· +2))
  else (rem r d).map (· +1)
termination_by l.length
decreasing_by all_goals (simp;try omega)
theorem b2Z (d:Nat):rem [] d=none:=by rw[rem]
theorem o1j (c:UInt8) (r:T) (d:Nat):rem (c::r) d=if opens (c::r) then (rem (r.drop 1) (d+1)).map (· +2)
  else if f1g (c::r) then (if d≤1 then some 2 else (rem (r.drop 1) (d-1)).map (· +2)) else (rem r d).map (· +1):=by rw[rem]
def skp (l:T):Nat×Bool:=
 match l with
 |[]=>(0,true)
 |c::r=>
  if i1l c then ((skp r).1+1,(skp r).2)
  else if opens (c::r) then match rem (c::r) 0 with
   |none=>(0,false)
   |some n=>((skp (r.drop (n-1))).1+n,(skp (r.drop (n-1))).2)
  else (0,true)
termination_by l.length
decreasing_by all_goals (simp;try omega)
theorem p1C:skp []=(0,true):=by rw[skp]
theorem g1k (c:UInt8) (r:T):skp (c::r)=if i1l c then ((skp r).1+1,(skp r).2)
  else if opens (c::r) then match rem (c::r) 0 with
   |none=>(0,false)
   |some n=>((skp (r.drop (n-1))).1+n,(skp (r.drop (n-1))).2)
  else (0,true):=by rw[skp]
def d1A:Nat→T→Option Nat
 |v,[]=>some v
 |v,c::l=>if 10*v+(c.toNat-48)≤9223372036854775807 then d1A (10*v+(c.toNat-48)) l else none
def z1i:T:=[40,41,44,59,58,61,42,43,45,47,60,124,95,46]
def two:T→Bool
 |58::62::_=>true
 |61::62::_=>true
 |45::62::_=>true
 |_=>false
abbrev Tk:=Nat×Nat×Nat
variable (res:T→Bool)
def one (l:T):Except Nat Tk:=
 match l with
 |[]=>.error 10
 |c::r=>
  if low c||high c then
   (if 32<span i1m (c::r) then .error 12
    else .ok (if high c then 2 else if res ((c::r).take (span i1m (c::r))) then 3 else 1,span i1m (c::r),0))
  else if digit c then match d1A 0 ((c::r).take (span digit (c::r))) with
   |none=>.error 1
   |some v=>.ok (4,span digit (c::r),v)
  else if c==39 then
   (if !(r.head?.map low).getD false then .error 10
    else if 32<span tyvB r+1 then .error 12
    else .ok (5,span tyvB r+1,0))
  else if two (c::r) then .ok (6,2,0)
  else if z1i.contains c then .ok (6,1,0)
  else .error 10
structure Tok where
 kind:Nat
 text:T
 n:Nat
 at_:Nat
def lx (l:T) (a cnt:Nat):Except (Nat×Nat) (List Tok):=
 match (skp l).2 with
 |false=>.error (a+(skp l).1,10)
 |true=>match h:l.drop (skp l).1 with
  |[]=>.ok []
  |c::r=>match one res (c::r) with
   | .error e=>.error (a+(skp l).1,e)
   | .ok (k,n,v)=>if cnt=1024 then .error (a+(skp l).1,3) else
     (lx (r.drop (n-1)) (a+(skp l).1+n) (cnt+1)).map (⟨k,(c::r).take n,v,a+(skp l).1⟩:: ·)
termination_by l.length
decreasing_by
 have:=congrArg List.length h
 simp at this⊢;omega
theorem c2a (l:T) (a cnt:Nat):lx res l a cnt=match (skp l).2 with
 |false=>.error (a+(skp l).1,10)
 |true=>match l.drop (skp l).1 with
  |[]=>.ok []
  |c::r=>match one res (c::r) with
   | .error e=>.error (a+(skp l).1,e)
   | .ok (k,n,v)=>if cnt=1024 then .error (a+(skp l).1,3) else
     (lx res (r.drop (n-1)) (a+(skp l).1+n) (cnt+1)).map (⟨k,(c::r).take n,v,a+(skp l).1⟩:: ·):=by
 rw[lx]
 split
 ·rfl
 ·split
  ·rename_i h;rw[h]
  ·rename_i h;rw[h]
theorem h1l {α:Type} (c:α) (r:List α) {n:Nat} (h:0<n):r.drop (n-1)=(c::r).drop n:=by
 cases n with
 |zero=>omega
 |succ n=>simp
theorem i1B:∀{l:T} {d n:Nat},rem l d=some n→2≤n∧n≤l.length:=by
 intro l
 induction h:l.length using Nat.strongRecOn generalizing l with
 |ind m ih=>
  intro d n hr
  cases l with
  |nil=>rw[b2Z] at hr;cases hr
  |cons c r=>
   rw[o1j] at hr
   simp only[List.length_cons] at h⊢
   split at hr
   ·rename_i ho
    rw[Option.map_eq_some_iff] at hr
    obtain⟨k,hk,rfl⟩:=hr
    have:=ih (r.drop 1).length (by simp;omega) rfl hk
    have hl:r≠[]:=by rintro rfl;simp [opens] at ho
    cases r with
    |nil=>exact absurd rfl hl
    |cons x r=>simp at this h⊢;omega
   ·split at hr
    ·rename_i hc
     have hl:r≠[]:=by rintro rfl;simp [f1g] at hc
     cases r with
     |nil=>exact absurd rfl hl
     |cons x r=>
      split at hr
      ·simp at hr h⊢;omega
      ·rw[Option.map_eq_some_iff] at hr
       obtain⟨k,hk,rfl⟩:=hr
       have:=ih ((x::r).drop 1).length (by simp at h⊢;omega) rfl hk
       simp at this h⊢;omega
    ·rw[Option.map_eq_some_iff] at hr
     obtain⟨k,hk,rfl⟩:=hr
     have:=ih r.length (by omega) rfl hk
     omega
theorem k1h {x y:T} (h:2≤x.length):opens (x++y)=opens x:=by
 match x,h with
 |a::b::r,_=>
  by_cases h1:a=40
  ·by_cases h2:b=42
   ·subst h1 h2;rfl
   ·subst h1
    have e1:∀z,opens (40::b::z)=false:=fun z=>by unfold opens;split<;>simp_all
    simp [e1]
  ·have e1:∀z,opens (a::z)=false:=fun z=>by unfold opens;split<;>simp_all
   simp [e1]
theorem r1v {x y:T} (h:2≤x.length):f1g (x++y)=f1g x:=by
 match x,h with
 |a::b::r,_=>
  by_cases h1:a=42
  ·by_cases h2:b=41
   ·subst h1 h2;rfl
   ·subst h1
    have e1:∀z,f1g (42::b::z)=false:=fun z=>by unfold f1g;split<;>simp_all
    simp [e1]
  ·have e1:∀z,f1g (a::z)=false:=fun z=>by unfold f1g;split<;>simp_all
   simp [e1]
theorem c2b:∀{x:T} {y:T} {d n:Nat},rem (x++y) d=some n→n≤x.length→∀z,rem (x++z) d=some n:=by
 intro x
 induction h:x.length using Nat.strongRecOn generalizing x with
 |ind m ih=>
  intro y d n hr hn z
  have hb:=i1B hr
  match x,h with
  |[],h=>simp at h;omega
  |[c],h=>simp at h;omega
  |c::b::r,h=>
   have hx:2≤(c::b::r).length:=by simp
   have o1:opens (c::(b::r++y))=opens (c::b::r):=k1h (x:=c::b::r) hx
   have o2:opens (c::(b::r++z))=opens (c::b::r):=k1h (x:=c::b::r) hx
   have c1:f1g (c::(b::r++y))=f1g (c::b::r):=r1v (x:=c::b::r) hx
   have c2:f1g (c::(b::r++z))=f1g (c::b::r):=r1v (x:=c::b::r) hx
   rw[List.cons_append,o1j,o1,c1] at hr
   rw[List.cons_append,o1j,o2,c2]
   simp only[List.length_cons] at h hn
   split at hr
   ·rename_i hop
    rw[if_pos hop]
    rw[Option.map_eq_some_iff] at hr⊢
    obtain⟨k,hk,rfl⟩:=hr
    exact⟨k,ih r.length (by omega) rfl hk (by omega) z,rfl⟩
   ·rename_i hop
    rw[if_neg hop]
    split at hr
    ·rename_i hcl
     rw[if_pos hcl]
     split at hr
     ·rename_i hd;rw[if_pos hd];exact hr
     ·rename_i hd
      rw[if_neg hd]
      rw[Option.map_eq_some_iff] at hr⊢
      obtain⟨k,hk,rfl⟩:=hr
      exact⟨k,ih r.length (by omega) rfl hk (by omega) z,rfl⟩
    ·rename_i hcl
     rw[if_neg hcl]
     rw[Option.map_eq_some_iff] at hr⊢
     obtain⟨k,hk,rfl⟩:=hr
     exact⟨k,ih (b::r).length (by simp;omega) rfl hk (by simp;omega) z,rfl⟩
def Blk (x:T):Prop:=∀z,skp (x++z)=(x.length+(skp z).1,(skp z).2)
theorem Blk.nil:Blk []:=fun z=>by simp
theorem Blk.append {x y:T} (h:Blk x) (k:Blk y):Blk (x++y):=fun z=>by
 rw[List.append_assoc,h,k];simp;omega
theorem Blk.cons {c:UInt8} {x:T} (hc:i1l c=true) (h:Blk x):Blk (c::x):=fun z=>by
 rw[List.cons_append,g1k,if_pos hc,h];simp;omega
theorem Blk.lx {x:T} (h:Blk x) (res:T→Bool) (a cnt:Nat):lx res x a cnt=.ok []:=by
 have:=h []
 rw[List.append_nil,p1C] at this
 rw[c2a,this]
 simp
theorem Blk.remark {x:T} (hb:∀c,x.head? =some c→i1l c=false) (ho:opens x=true) (hr:rem x 0=some x.length):Blk x:=fun z=>by
 cases x with
 |nil=>simp [opens] at ho
 |cons c r=>
  have hc:i1l c=false:=hb c rfl
  have h2:=i1B hr
  have o2:opens (c::(r++z))=true:=by rw[←List.cons_append,k1h h2.1];exact ho
  have hr':rem ((c::r)++z) 0=some (c::r).length:=c2b (y:=[]) (by simpa using hr) (Nat.le_refl _) z
  have e:rem (c::(r++z)) 0=some (c::r).length:=hr'
  rw[List.cons_append,g1k,hc,o2,e]
  simp
  omega
theorem p1D:∀{l:T},(skp l).1≤l.length:=by
 intro l
 induction h:l.length using Nat.strongRecOn generalizing l with
 |ind m ih=>
  cases l with
  |nil=>rw[p1C];simp
  |cons c r=>
   simp only[List.length_cons] at h
   rw[g1k]
   split
   ·have:=ih r.length (by omega) rfl;simp;omega
   ·split
    ·split
     ·simp
     ·rename_i n hn
      have h2:=i1B hn
      have:=ih (r.drop (n-1)).length (by simp;omega) rfl
      simp at this h2⊢;omega
    ·simp
theorem h2v:∀{l:T},Blk (l.take (skp l).1):=by
 intro l
 induction h:l.length using Nat.strongRecOn generalizing l with
 |ind m ih=>
  cases l with
  |nil=>rw[p1C];exact .nil
  |cons c r=>
   simp only[List.length_cons] at h
   rw[g1k]
   split
   ·rename_i hc
    simp only[List.take_succ_cons]
    exact .cons hc (ih r.length (by omega) rfl)
   ·rename_i hc
    split
    ·rename_i ho
     split
     ·exact .nil
     ·rename_i n hn
      have h2:=i1B hn
      have hk:=ih (r.drop (n-1)).length (by simp;omega) rfl
      rw[h1l c r (by omega)] at hk⊢
      simp only
      rw[Nat.add_comm,List.take_add]
      refine .append (.remark ?_ ?_ ?_) hk
      ·intro x hx
       have:x=c:=by
        cases n with
        |zero=>omega
        |succ n=>simpa using hx.symm
       subst this;simpa using hc
      ·have:=k1h (x:=(c::r).take n) (y:=(c::r).drop n) (by rw[List.length_take];omega)
       rw[List.take_append_drop] at this;rw[←this];exact ho
      ·have:=c2b (x:=(c::r).take n) (y:=(c::r).drop n) (d:=0) (n:=n) (by rw[List.take_append_drop];exact hn) (by rw[List.length_take];omega) []
       rw[List.append_nil] at this;rw[this,List.length_take];congr 1;omega
    ·exact .nil
theorem e2Y:∀{l:T},(skp l).2=true→∀{c r},l.drop (skp l).1=c::r→i1l c=false∧opens (c::r)=false:=by
 intro l
 induction h:l.length using Nat.strongRecOn generalizing l with
 |ind m ih=>
  cases l with
  |nil=>rw[p1C];intro _ c r h;simp at h
  |cons x r=>
   simp only[List.length_cons] at h
   rw[g1k]
   split
   ·intro h2 c q hd
    simp only[List.drop_succ_cons] at hd
    exact ih r.length (by omega) rfl h2 hd
   ·rename_i hb
    split
    ·split
     ·intro h2;cases h2
     ·rename_i n hn
      have h2:=i1B hn
      intro h3 c q hd
      rw[Nat.add_comm,←List.drop_drop,←h1l x r (by omega)] at hd
      exact ih (r.drop (n-1)).length (by simp;omega) rfl h3 hd
    ·rename_i ho
     intro _ c q hd
     simp at hd
     obtain⟨rfl,rfl⟩:=hd
     exact⟨by simpa using hb,by simpa using ho⟩
theorem e2Z {c:UInt8} {r:T} (hb:i1l c=false) (ho:opens (c::r)=false):skp (c::r)=(0,true):=by
 rw[g1k,hb,ho];simp
end Go.Lx
end

section
/- LEX, plain: a text in pieces: blanks, a token, blanks, a token .. -/
set_option linter.unusedVariables false
set_option linter.unusedSimpArgs false
namespace Go.Lx
def sep:T→Bool
 |[]=>true
 |c::_=>i1l c
theorem m1Q (p:UInt8→Bool):∀l:T,span p l≤l.length
 |[]=>Nat.le_refl _
 |c::l=>by
  unfold span
  split
  ·have:=m1Q p l;simp;omega
  ·simp
theorem l1h (p:UInt8→Bool):∀(x y:T),span p (x++y)=if span p x=x.length then x.length+span p y else span p x
 |[],y=>by simp [span]
 |c::x,y=>by
  simp only[List.cons_append,span]
  have h:=l1h p x y
  have h2:=m1Q p x
  split
  ·rw[h]
   by_cases e:span p x=x.length
   ·simp [e];omega
   ·have:span p x+1≠(c::x).length:=by simpa using e
    simp [e]
  ·simp
theorem c2c {p:UInt8→Bool} {y:T} (h:∀c,y.head? =some c→p c=false):span p y=0:=by
 cases y with
 |nil=>rfl
 |cons c y=>simp [span,h c rfl]
theorem p1E {p:UInt8→Bool} {y:T} (h:span p y=0):∀c,y.head? =some c→p c=false:=by
 cases y with
 |nil=>intro c h;cases h
 |cons c y=>
  intro d hd
  simp at hd;subst hd
  simp only[span] at h
  cases hp:p c
  ·rfl
  ·rw[hp] at h;simp at h
def Ctx (y z:T):Prop:=sep z=true∨z.head? =y.head?
theorem s1s {z:T} (h:sep z=true) {c:UInt8} (hc:z.head? =some c):i1l c=true:=by
 cases z with
 |nil=>cases hc
 |cons d z=>simp at hc;subst hc;exact h
theorem s1t {p:UInt8→Bool} (hp:∀c,i1l c=true→p c=false) {x y z:T} (h:span p (x++y)=x.length) (hz:Ctx y z):span p (x++z)=x.length:=by
 have h1:=l1h p x y
 rw[h] at h1
 have hx:span p x=x.length∧span p y=0:=by
  split at h1
  ·rename_i e;exact⟨e,by omega⟩
  ·exact⟨h1.symm,absurd h1.symm (by assumption)⟩
 rw[l1h,if_pos hx.1,c2c (p:=p) (y:=z)]
 ·rfl
 ·intro c hc
  rcases hz with hz|hz
  ·exact hp c (s1s hz hc)
  ·exact p1E hx.2 c (hz▸hc)
theorem j1i {c:UInt8} (h:i1l c=true):c=32∨c=9∨c=10∨c=13:=by
 simp only[i1l,Bool.or_eq_true,beq_iff_eq] at h
 exact h
theorem z1j {c:UInt8} (h:i1l c=true):i1m c=false:=by
 rcases j1i h with rfl|rfl|rfl|rfl<;>decide
theorem w1i {c:UInt8} (h:i1l c=true):digit c=false:=by
 rcases j1i h with rfl|rfl|rfl|rfl<;>decide
theorem c2d {c:UInt8} (h:i1l c=true):tyvB c=false:=by
 rcases j1i h with rfl|rfl|rfl|rfl<;>decide
theorem x1F {c:UInt8} (h:i1l c=true):c≠62∧c≠42:=by
 rcases j1i h with rfl|rfl|rfl|rfl<;>decide
def j1j (c:UInt8):Bool:=c==58||(c==61||c==45)
theorem u1H (c:UInt8) (r:T):two (c::r)=(j1j c&&(r.head? ==some 62)):=by
 cases r with
 |nil=>unfold two;simp
 |cons d r=>
  by_cases h1:c=58
  ·subst h1
   by_cases h2:d=62
   ·subst h2;simp [two,j1j]
   ·unfold two;simp [h2,j1j]
  ·by_cases h3:c=61
   ·subst h3
    by_cases h2:d=62
    ·subst h2;simp [two,j1j]
    ·unfold two;simp [h2,j1j]
   ·by_cases h4:c=45
    ·subst h4
     by_cases h2:d=62
     ·subst h2;simp [two,j1j]
     ·unfold two;simp [h2,j1j]
    ·unfold two;simp [h1,h3,h4,j1j]
theorem s1u (c:UInt8) (r:T):opens (c::r)=(c==40&&(r.head? ==some 42)):=by
 cases r with
 |nil=>unfold opens;simp
 |cons d r=>
  by_cases h1:c=40
  ·subst h1
   by_cases h2:d=42
   ·subst h2;simp [opens]
   ·unfold opens;simp [h2]
  ·unfold opens;simp [h1]
theorem h2w {c:UInt8} {y z:T} (h:two (c::y)=false) (hz:Ctx y z):two (c::z)=false:=by
 rw[u1H] at h⊢
 rcases hz with hz|hz
 ·cases hm:z.head? with
  |none=>simp
  |some d=>have:=x1F (s1s hz hm);simp [this.1]
 ·rw[hz];exact h
theorem m1a {x y z:T} (hx:x≠[]) (h:opens (x++y)=false) (hz:Ctx y z):opens (x++z)=false:=by
 match x,hx with
 |[c],_=>
  simp only[List.cons_append,List.nil_append] at h⊢
  rw[s1u] at h⊢
  rcases hz with hz|hz
  ·cases hm:z.head? with
   |none=>simp
   |some d=>have:=x1F (s1s hz hm);simp [this.2]
  ·rw[hz];exact h
 |c::d::r,_=>rw[k1h (by simp)] at h⊢;exact h
variable {res:T→Bool}
theorem f1A {l:T} {k n v:Nat} (h:one res l=.ok (k,n,v)):1≤n∧n≤l.length∧1≤k∧k≤6∧(k≠4→v=0):=by
 cases l with
 |nil=>simp [one] at h
 |cons c r=>
  unfold one at h
  simp only at h
  split at h
  ·rename_i hc
   split at h
   ·cases h
   ·injection h with h;injection h with h1 h;injection h with h2 h3
    subst h1 h2 h3
    have hw:i1m c=true:=by unfold i1m;rw[Bool.or_eq_true] at hc;rcases hc with hc|hc<;>simp [hc]
    have h1:span i1m (c::r)=span i1m r+1:=by simp [span,hw]
    have h2:=m1Q i1m (c::r)
    refine⟨by omega,h2,?_,?_,fun _=>rfl⟩<;>(split<;>(try split)<;>omega)
  ·split at h
   ·rename_i hc
    split at h
    ·cases h
    ·injection h with h;injection h with h1 h;injection h with h2 h3
     subst h1 h2 h3
     have h1:span digit (c::r)=span digit r+1:=by simp [span,hc]
     have h2:=m1Q digit (c::r)
     exact⟨by omega,h2,by omega,by omega,fun h=>absurd rfl h⟩
   ·split at h
    ·split at h
     ·cases h
     ·split at h
      ·cases h
      ·injection h with h;injection h with h1 h;injection h with h2 h3
       subst h1 h2 h3
       have h2:=m1Q tyvB r
       exact⟨by omega,by simp;omega,by omega,by omega,fun _=>rfl⟩
    ·split at h
     ·rename_i ht
      injection h with h;injection h with h1 h;injection h with h2 h3
      subst h1 h2 h3
      rw[u1H] at ht
      cases r with
      |nil=>simp at ht
      |cons d r=>simp
     ·split at h
      ·injection h with h;injection h with h1 h;injection h with h2 h3
       subst h1 h2 h3
       simp
      ·cases h
theorem s1v {x y z:T} {k v:Nat} (h:one res (x++y)=.ok (k,x.length,v)) (hz:Ctx y z):one res (x++z)=.ok (k,x.length,v):=by
 cases x with
 |nil=>have:=(f1A h).1;simp at this
 |cons c x=>
  rw[List.cons_append] at h⊢
  unfold one at h⊢
  simp only at h⊢
  split at h
  ·rename_i hc
   rw[if_pos hc]
   split at h
   ·cases h
   ·rename_i h32
    injection h with h;injection h with h1 h;injection h with h2 h3
    have e1:span i1m (c::(x++y))=(c::x).length:=h2
    have e2:span i1m (c::(x++z))=(c::x).length:=s1t (x:=c::x) (fun _=>z1j) e1 hz
    have t1:∀q:T,(c::(x++q)).take (c::x).length=c::x:=fun q=>by rw[←List.cons_append];simp
    rw[e1,t1] at h1
    rw[e1] at h32
    rw[e2,t1,if_neg h32,h1,h3]
  ·rename_i hc
   rw[if_neg hc]
   split at h
   ·rename_i hd
    rw[if_pos hd]
    split at h
    ·cases h
    ·rename_i u hu
     injection h with h;injection h with h1 h;injection h with h2 h3
     have e1:span digit (c::(x++y))=(c::x).length:=h2
     have e2:span digit (c::(x++z))=(c::x).length:=s1t (x:=c::x) (fun _=>w1i) e1 hz
     have t1:∀q:T,(c::(x++q)).take (c::x).length=c::x:=fun q=>by rw[←List.cons_append];simp
     rw[e1,t1] at hu
     rw[e2,t1,hu]
     simp [h1,h3]
   ·rename_i hd
    rw[if_neg hd]
    split at h
    ·rename_i hq
     rw[if_pos hq]
     split at h
     ·cases h
     ·rename_i hl
      split at h
      ·cases h
      ·rename_i h32
       injection h with h;injection h with h1 h;injection h with h2 h3
       have e1:span tyvB (x++y)=x.length:=by simpa using h2
       have e2:span tyvB (x++z)=x.length:=s1t (fun _=>c2d) e1 hz
       have hxn:x≠[]:=by
        rintro rfl
        simp only[List.nil_append,List.length_nil] at e1 hl
        have:=p1E e1
        cases y with
        |nil=>simp at hl
        |cons d y=>
         simp at hl
         have:=this d rfl
         simp [tyvB,hl] at this
       have hh:∀q:T,(x++q).head? =x.head?:=fun q=>by cases x with|nil=>exact absurd rfl hxn|cons=>rfl
       rw[hh] at hl
       rw[hh,if_neg hl,e2]
       rw[e1] at h32
       rw[if_neg h32]
       simp [h1,h3]
    ·rename_i hq
     rw[if_neg hq]
     split at h
     ·rename_i ht
      injection h with h;injection h with h1 h;injection h with h2 h3
      match x,h2 with
      |[d],_=>
       have:two (c::([d]++z))=two (c::([d]++y)):=by rw[u1H,u1H];simp
       rw[if_pos (this.trans ht)]
       simp [h1,h3]
     ·rename_i ht
      split at h
      ·rename_i hm
       injection h with h;injection h with h1 h;injection h with h2 h3
       match x,h2 with
       |[],_=>
        simp only[List.nil_append] at ht⊢
        have:=h2w (Bool.eq_false_iff.2 ht) hz
        rw[if_neg (by rw[this];decide),if_pos hm]
        simp [h1,h3]
      ·cases h
variable (res)
inductive Pieces:T→Nat→List Tok→Prop
 |nil {l a}:Blk l→Pieces l a []
 |cons {b x l:T} {a k v:Nat} {ts:List Tok}:Blk b→one res (x++l)=.ok (k,x.length,v)→(∀c,(x++l).head? =some c→i1l c=false)→opens (x++l)=false→
   Pieces l (a+b.length+x.length) ts→Pieces (b++(x++l)) a (⟨k,x,v,a+b.length⟩::ts)
variable {res}
theorem c2e:∀{l:T} {a cnt:Nat} {ts:List Tok},cnt≤1024→lx res l a cnt=.ok ts→Pieces res l a ts∧cnt+ts.length≤1024:=by
 intro l
 induction h:l.length using Nat.strongRecOn generalizing l with
 |ind m ih=>
  intro a cnt ts hc hl
  rw[c2a] at hl
  split at hl
  ·cases hl
  ·rename_i hs
   have hsb:=p1D (l:=l)
   have hblk:=h2v (l:=l)
   split at hl
   ·rename_i hd
    injection hl with hl;subst hl
    rw[List.drop_eq_nil_iff] at hd
    rw[List.take_of_length_le hd] at hblk
    exact⟨.nil hblk,by simpa using hc⟩
   ·rename_i c r hd
    obtain⟨hb,ho⟩:=e2Y hs hd
    split at hl
    ·cases hl
    ·rename_i k n v h1
     split at hl
     ·cases hl
     ·rename_i hcn
      obtain⟨b1,b2,_⟩:=f1A h1
      cases hx:lx res (r.drop (n-1)) (a+(skp l).1+n) (cnt+1) with
      |error e=>rw[hx] at hl;cases hl
      |ok us=>
       rw[hx] at hl
       injection hl with hl;subst hl
       have hlen:=congrArg List.length hd
       simp at hlen
       obtain⟨q1,q2⟩:=ih (r.drop (n-1)).length (by simp;omega) rfl (by omega) hx
       refine⟨?_,by simp;omega⟩
       rw[h1l c r (by omega)] at q1
       have e1:((c::r).take n).length=n:=by rw[List.length_take];omega
       have e2:(l.take (skp l).1).length=(skp l).1:=by rw[List.length_take];omega
       have e3:(c::r).take n++(c::r).drop n=c::r:=List.take_append_drop ..
       have:=Pieces.cons (res:=res) (b:=l.take (skp l).1) (x:=(c::r).take n) (l:=(c::r).drop n) (a:=a) (k:=k) (v:=v) (ts:=us) hblk
        (by rw[e3,e1];exact h1) (by rw[e3];intro d hd2;simp at hd2;subst hd2;exact hb) (by rw[e3];exact ho) (by rw[e1,e2];exact q1)
       rw[e3,e2] at this
       rw[←hd,List.take_append_drop,hd] at this
       exact this
theorem c2f:∀{l:T} {a:Nat} {ts:List Tok},Pieces res l a ts→∀{cnt:Nat},cnt+ts.length≤1024→lx res l a cnt=.ok ts:=by
 intro l a ts h
 induction h with
 |nil hb=>intro cnt _;exact hb.lx ..
 | @cons b x l a k v ts hb h1 hh ho _ ih=>
  intro cnt hc
  simp only[List.length_cons] at hc
  obtain⟨b1,b2,_⟩:=f1A h1
  cases hx:x++l with
  |nil=>have:=congrArg List.length hx;simp at this b1;rw[this.1] at b1;simp at b1
  |cons c r=>
   rw[hx] at h1 hh ho
   have hs:skp (b++(c::r))=(b.length,true):=by rw[hb,e2Z (hh c rfl) ho];simp
   have hdr:(b++(c::r)).drop b.length=c::r:=by simp
   have hr:r.drop (x.length-1)=l:=by rw[h1l c r b1,←hx];simp
   have ht:(c::r).take x.length=x:=by rw[←hx];simp
   rw[c2a,hs]
   simp only[hdr,h1]
   rw[if_neg (by omega),hr,ih (by omega),ht]
   rfl
theorem Pieces.blk {b m:T} {a:Nat} {ts:List Tok} (hb:Blk b) (h:Pieces res m (a+b.length) ts):Pieces res (b++m) a ts:=by
 cases h with
 |nil hm=>exact .nil (hb.append hm)
 | @cons b2 x l _ k v ts h2 h1 hh ho hr=>
  have:=Pieces.cons (res:=res) (a:=a) (b:=b++b2) (hb.append h2) h1 hh ho (by rw[List.length_append,←Nat.add_assoc];exact hr)
  rw[List.append_assoc,List.length_append,←Nat.add_assoc] at this
  exact this
theorem w1j {l m:T} (hm:sep m=true):Ctx l (l++m):=by
 cases l with
 |nil=>exact .inl hm
 |cons c l=>exact .inr rfl
theorem o1k {x l z:T} {k v:Nat} (h1:one res (x++l)=.ok (k,x.length,v)) (hh:∀c,(x++l).head? =some c→i1l c=false):(∀c,(x++z).head? =some c→i1l c=false)∧x≠[]:=by
 cases x with
 |nil=>have:=(f1A h1).1;simp at this
 |cons d x=>exact⟨fun c hc=>hh c hc,by simp⟩
theorem Pieces.append {l m:T} {a:Nat} {ts us:List Tok} (h:Pieces res l a ts) (hs:sep m=true) (k:Pieces res m (a+l.length) us):Pieces res (l++m) a (ts++us):=by
 induction h with
 |nil hb=>exact k.blk hb
 | @cons b x l a kk v ts hb h1 hh ho _ ih=>
  have hc:=w1j (l:=l) hs
  have:=ih (by rw[List.length_append,List.length_append,←Nat.add_assoc,←Nat.add_assoc] at k;exact k)
  have hht:=o1k (z:=l++m) h1 hh
  have r:=Pieces.cons hb (s1v h1 hc) hht.1 (m1a hht.2 ho hc) this
  simpa [List.append_assoc] using r
def key (t:Tok):Nat×T×Nat:=(t.kind,t.text,t.n)
theorem Pieces.shift {l:T} {a:Nat} {ts:List Tok} (h:Pieces res l a ts) (b:Nat):∃us,Pieces res l b us∧us.map key=ts.map key:=by
 induction h generalizing b with
 |nil hb=>exact⟨[],.nil hb,rfl⟩
 | @cons bb x l a kk v ts hb h1 hh ho _ ih=>
  obtain⟨us,q1,q2⟩:=ih (b+bb.length+x.length)
  exact⟨_,.cons hb h1 hh ho q1,by simp [key,q2]⟩
theorem Pieces.put {l:T} {a:Nat} {ts:List Tok} (h:Pieces res l a ts) {p:T} (hp:Blk p) (hs:sep p=true) (hne:p≠[]):∀{i:Nat} {t:Tok},ts[i]? =some t→
  ∃us,Pieces res (l.take (t.at_-a)++(p++(l.drop (t.at_-a)++p))) a us∧us.map key=ts.map key∧a≤t.at_:=by
 induction h with
 |nil hb=>intro i t h;simp at h
 | @cons b x l a k v ts hb h1 hh ho hr ih=>
  intro i t hi
  have hend:∀{m:T} {n:Nat} {vs:List Tok},Pieces res m n vs→Pieces res (m++p) n vs:=fun {m n vs} hm=>by
   have:=hm.append hs (Pieces.nil (res:=res) (a:=n+m.length) hp)
   rwa [List.append_nil] at this
  cases i with
  |zero=>
   simp at hi;subst hi
   obtain⟨us,q1,q2⟩:=(hend (Pieces.cons (b:=[]) (a:=0) .nil h1 hh ho (by simpa using (hr.shift _).choose_spec.1))).shift (a+b.length+p.length)
   refine⟨us,?_,?_,by simp⟩
   ·have e1:(b++(x++l)).take (a+b.length-a)=b:=by rw[Nat.add_sub_cancel_left];simp
    have e2:(b++(x++l)).drop (a+b.length-a)=x++l:=by rw[Nat.add_sub_cancel_left];simp
    simp only[e1,e2]
    exact(Pieces.blk hp (by simpa using q1)).blk hb
   ·rw[q2]
    have:=(hr.shift (0+b.length)).choose_spec
    simp only[List.map_cons,List.cons.injEq]
    refine⟨rfl,?_⟩
    exact(hr.shift _).choose_spec.2
  |succ i=>
   simp only[List.getElem?_cons_succ] at hi
   obtain⟨us,q1,q2,q3⟩:=ih hi
   obtain⟨d,hd⟩:∃d,t.at_=a+b.length+x.length+d:=⟨t.at_-(a+b.length+x.length),by omega⟩
   have e0:t.at_-(a+b.length+x.length)=d:=by omega
   rw[e0] at q1
   have e1:t.at_-a=(b++x).length+d:=by simp;omega
   have f1:(b++(x++l)).take (t.at_-a)=b++(x++l.take d):=by rw[e1,←List.append_assoc,List.take_length_add_append,List.append_assoc]
   have f2:(b++(x++l)).drop (t.at_-a)=l.drop d:=by rw[e1,←List.append_assoc,List.drop_length_add_append]
   have hc:Ctx l (l.take d++(p++(l.drop d++p))):=by
    cases d with
    |zero=>
     left
     cases p with
     |nil=>exact absurd rfl hne
     |cons c p=>exact hs
    |succ d=>
     cases l with
     |nil=>left;cases p with
      |nil=>rfl
      |cons c p=>exact hs
     |cons c l=>right;rfl
   have hht:=o1k (z:=l.take d++(p++(l.drop d++p))) h1 hh
   have r:=Pieces.cons hb (s1v h1 hc) hht.1 (m1a hht.2 ho hc) q1
   refine⟨⟨k,x,v,a+b.length⟩::us,?_,?_,by omega⟩
   ·rw[f1,f2]
    simpa [List.append_assoc] using r
   ·simp [key,q2]
end Go.Lx
end

section
/- LEX, plain: digits and their value; marks. -/
set_option linter.unusedVariables false
set_option linter.unusedSimpArgs false
namespace Go.Lx
theorem l1i {c:UInt8}:digit c=true↔48≤c.toNat∧c.toNat≤57:=by
 simp only[digit,Bool.and_eq_true,decide_eq_true_eq,UInt8.le_iff_toNat_le]
 rfl
theorem x1G {p:UInt8→Bool}:∀{l:T},∀c∈l.take (span p l),p c=true
 |[],c,h=>by simp [span] at h
 |d::l,c,h=>by
  simp only[span] at h
  split at h
  ·rename_i hd
   simp only[List.take_succ_cons,List.mem_cons] at h
   rcases h with rfl|h
   ·exact hd
   ·exact x1G c h
  ·simp at h
theorem g2r:∀{l:T} {v u:Nat},v≤9223372036854775807→d1A v l=some u→u≤9223372036854775807
 |[],v,u,hv,h=>by simp [d1A] at h;omega
 |c::l,v,u,hv,h=>by
  unfold d1A at h
  split at h
  ·exact g2r (by omega) h
  ·cases h
theorem u1I:∀{l:T} {v u:Nat},Lib.parseUintM (2^64-1) v l=.ok u→v≤u
 |[],v,u,h=>by simp [Lib.parseUintM] at h;omega
 |c::l,v,u,h=>by
  unfold Lib.parseUintM at h
  split at h
  ·split at h
   ·cases h
   ·split at h
    ·cases h
    ·have:=u1I h;omega
  ·cases h
theorem r1w:∀{l:T} {v:Nat},(∀c∈l,digit c=true)→Lib.parseUintM (2^64-1) v l=.range∨∃u,Lib.parseUintM (2^64-1) v l=.ok u
 |[],v,hd=>.inr ⟨v,by simp [Lib.parseUintM]⟩
 |c::l,v,hd=>by
  have hc:=l1i.1 (hd c (by simp))
  unfold Lib.parseUintM
  rw[if_pos hc]
  split
  ·exact .inl rfl
  ·split
   ·exact .inl rfl
   ·exact r1w fun d hd'=>hd d (by simp [hd'])
theorem r1x:∀{l:T} {v:Nat},(∀c∈l,digit c=true)→v≤9223372036854775807→
  (∀u,d1A v l=some u→Lib.parseUintM (2^64-1) v l=.ok u)∧(d1A v l=none→∀u,Lib.parseUintM (2^64-1) v l=.ok u→9223372036854775808≤u)
 |[],v,hd,hv=>⟨fun u h=>by simp [d1A] at h;simp [Lib.parseUintM,h],fun h u _=>by simp [d1A] at h⟩
 |c::l,v,hd,hv=>by
  have hc:=l1i.1 (hd c (by simp))
  have hl:∀d∈l,digit d=true:=fun d h=>hd d (by simp [h])
  unfold d1A Lib.parseUintM
  rw[if_pos hc]
  by_cases h1:10*v+(c.toNat-48)≤9223372036854775807
  ·rw[if_pos h1,if_neg (by omega),if_neg (by omega)]
   have e:v*10+(c.toNat-48)=10*v+(c.toNat-48):=by omega
   rw[e]
   exact r1x hl h1
  ·rw[if_neg h1]
   refine⟨fun u h=>(by cases h),fun _ u h=>?_⟩
   split at h
   ·cases h
   ·split at h
    ·cases h
    ·have:=u1I h;omega
theorem u1J {l:T} (hn:l≠[]) (hd:∀c∈l,digit c=true):Lib.parseIntB 64 l=match d1A 0 l with
  |some v=>.ok (v:Int)
  |none=>.range:=by
 cases l with
 |nil=>exact absurd rfl hn
 |cons c l=>
  have hc:=l1i.1 (hd c (by simp))
  have h43:¬(c.toNat=43∨c.toNat=45):=by omega
  have h45:¬(c.toNat=45):=by omega
  have hp:=r1x (v:=0) hd (by omega)
  have hs:=r1w (v:=0) hd
  unfold Lib.parseIntB
  simp only[if_neg h43]
  have hu:Lib.parseUintB 64 (c::l)=Lib.parseUintM (2^64-1) 0 (c::l):=by unfold Lib.parseUintB;rw[if_neg (by simp)]
  rw[hu]
  cases hq:d1A 0 (c::l) with
  |some v=>
   rw[hp.1 v hq]
   have:=g2r (by omega) hq
   simp only[h45]
   rw[if_neg (by simp;omega),if_neg (by simp)]
   simp
  |none=>
   rcases hs with hm|⟨u,hm⟩
   ·rw[hm]
   ·rw[hm]
    have:=hp.2 hq u hm
    simp only[h45]
    rw[if_pos ⟨by simp,by simpa using this⟩]
end Go.Lx
end
