/- Texts of this proof folded into one: XL2 L2. -/
import Derived.Test.YtmdjdcnabbapgaaGreatDoorW6
import Derived.Test.YtmdjdcnabbapgaaGreatDoorW7
import Derived.Test.YtmdjdcnabbapgaaGreatDoorW11
section
/- LEX: trees, printed by kt.py out of x2.txt -/
open Go Go.Eng
open IntKind (wrap)
namespace Go.Proofs
set_option linter.unusedVariables false
set_option maxRecDepth 100000
theorem X_Reserved_eq (s:ByteArray):kt3 b1X [vS s] []=
 .branch (s.toList==zkb7.toList) (.need true (.ret (zkR (vB true) []))) (.branch (s.toList==zkb8.toList) (.need true (.ret (zkR (vB true) []))) (.branch (s.toList==zkb9.toList) (.need true (.ret (zkR (vB true) []))) (.branch (s.toList==h2m.toList) (.need true (.ret (zkR (vB true) []))) (.branch (s.toList==z1e.toList) (.need true (.ret (zkR (vB true) []))) (.branch (s.toList==z1d.toList) (.need true (.ret (zkR (vB true) []))) (.branch (s.toList==h2l.toList) (.need true (.ret (zkR (vB true) []))) (.branch (s.toList==e2O.toList) (.need true (.ret (zkR (vB true) []))) (.branch (s.toList==i2U.toList) (.need true (.ret (zkR (vB true) []))) (.branch (s.toList==h2k.toList) (.need true (.ret (zkR (vB true) []))) (.branch (s.toList==e2N.toList) (.need true (.ret (zkR (vB true) []))) (.branch (s.toList==z1c.toList) (.need true (.ret (zkR (vB true) []))) (.branch (s.toList==e2M.toList) (.need true (.ret (zkR (vB true) []))) (.branch (s.toList==h2j.toList) (.need true (.ret (zkR (vB true) []))) (.branch (s.toList==i2T.toList) (.need true (.ret (zkR (vB true) []))) (.branch (s.toList==i2S.toList) (.need true (.ret (zkR (vB true) []))) (.branch (s.toList==i2R.toList) (.need true (.ret (zkR (vB true) []))) (.branch (s.toList==i2Q.toList) (.need true (.ret (zkR (vB true) []))) (.branch (s.toList==h2i.toList) (.need true (.ret (zkR (vB true) []))) (.branch (s.toList==z1b.toList) (.need true (.ret (zkR (vB true) []))) (.branch (s.toList==i2P.toList) (.need true (.ret (zkR (vB true) []))) (.branch (s.toList==z1a.toList) (.need true (.ret (zkR (vB true) []))) (.branch (s.toList==e2L.toList) (.need true (.ret (zkR (vB true) []))) (.branch (s.toList==i2O.toList) (.need true (.ret (zkR (vB true) []))) (.need true (.ret (zkR (vB false) [])))))))))))))))))))))))))):=by kernel_rfl
end Go.Proofs
end

section
/- LEX: what the program's functions answer, part 2: Reserved, ParseInt, ContainsRune, word, one -/
open Go Go.Eng Go.Lx
namespace Go.Proofs
set_option linter.unusedVariables false
set_option linter.unusedSimpArgs false
set_option maxRecDepth 100000
def j2o:List T:=[[98,111,111,108],[99,97,115,101],[100,97,116,97],[101,108,115,101],[101,110,100],[102,97,108,115,101],[102,110],[102,117,110],[102,117,110,99,116,111,114],[105,102],[105,110],[105,110,116],[108,101,116],[111,102],
 [115,105,103],[115,105,103,110,97,116,117,114,101],[115,116,114,117,99,116],[115,116,114,117,99,116,117,114,101],[116,104,101,110],[116,114,117,101],[116,121,112,101],[117,110,105,116],[118,97,108],[119,104,101,114,101]]
def resP (t:T):Bool:=j2o.any fun w=>decide (t=w)
set_option maxHeartbeats 1000000 in
theorem c_Reserved (s:ByteArray):evp b1X [vS s] .none []=some ⟨.ret (vB (resP (tx s))),.none,[]⟩:=by
 refine k1m (a1j (X_Reserved_eq s) ?_)
 repeat' first
  |(refine a1d (fun h=>⟨rfl,e1u (by rw[n1B] at h;rw[of_decide_eq_true h];rfl)⟩) (fun h=>?_);rw[n1B,decide_eq_false_iff_not] at h)
  |(refine⟨rfl,e1u (congrArg vB ?_)⟩;unfold resP j2o;simp only[List.any_cons,List.any_nil];simp_all [tx])
def te:TypeId:=c1b
theorem z1g {t:ByteArray} {v:Nat} (hn:tx t≠[]) (hd:∀c∈tx t,digit c=true) (hsz:t.size≤281474976710656) (h:d1A 0 (tx t)=some v):
  evp c1J [vS t,vI 10,vI 64] .none []=some ⟨.ret (.tuple [vI v,.val .nilIface]),.none,[]⟩:=by
 refine b2c (e:=fun args H=>(e1P c1b args).map fun v=>(Out.ret v,H)) rfl ?_
 simp only[e1P,vS,vI,if_pos hsz]
 have:=u1J hn hd
 rw[h] at this
 simp only[tx] at this
 rw[this];rfl
theorem w1g {t:ByteArray} (hn:tx t≠[]) (hd:∀c∈tx t,digit c=true) (hsz:t.size≤281474976710656) (h:d1A 0 (tx t)=none):
  evp c1J [vS t,vI 10,vI 64] .none []=some ⟨.ret (.tuple [vI (Lib.intSat 64 t.data.toList),.iface c1b .any]),.none,[]⟩:=by
 refine b2c (e:=fun args H=>(e1P c1b args).map fun v=>(Out.ret v,H)) rfl ?_
 simp only[e1P,vS,vI,if_pos hsz]
 have:=u1J hn hd
 rw[h] at this
 simp only[tx] at this
 rw[this];rfl
def zT:AV:=.agg [vI 0,vS ⟨#[]⟩,vI 0,vI 0]
def oneV (s:ByteArray) (a:Nat):Except Nat Tk→AV
 | .error e=>.tuple [zT,vI e]
 | .ok (k,n,v)=>.tuple [.agg [vI k,vS (s.extract a (a+n)),vI v,vI a],vI 0]
theorem o1h {s:ByteArray} {a n:Nat} (h:a+n≤s.size):(s.extract a (a+n)).size=n:=by
 rw[ByteArray.size_extract];omega
theorem p1B (p:UInt8→Bool) (s:ByteArray) (a:Nat) (ha:a≤s.size):a+span p ((tx s).drop a)≤s.size:=by
 have:=m1Q p ((tx s).drop a)
 rw[List.length_drop,d1J] at this;omega
theorem o1i (s:ByteArray) (a n:Nat):tx (s.extract a (a+n))=((tx s).drop a).take n:=by rw[x1D];congr 1;omega
theorem j2p {s:ByteArray} {a:Nat} {b:Bool} (hs:s.size<BIG) (ha:a≤s.size):evp g1a [vS s,vI a,vB b] .none []=
  some ⟨.ret (oneV s a (if 32<span i1m ((tx s).drop a) then .error 12 else .ok (if b then 2 else if resP (((tx s).drop a).take (span i1m ((tx s).drop a))) then 3 else 1,span i1m ((tx s).drop a),0))),.none,[]⟩:=by
 have hn:=p1B i1m s a ha
 generalize hN:span i1m ((tx s).drop a)=n at *
 have h1:=j2l hs ha
 rw[hN] at h1
 refine k1m (a1j (d2X s a b) ⟨_,h1,by apply decide_eq_true;omega,a1t ?_⟩)
 have key:∀(q:Nat) (QR:CRes→Prop),QR ⟨.ret (oneV s a (if 32<n then .error 12 else .ok (q,n,0))),.none,[]⟩→(((d2W s a b).I ((a+n:Nat):Int)).T.T.K ⟨tm2 29 [(6,(.lp 6 0 0)),(8,(.lp 8 0 0))],lm2 29 [(6,(0,[(vI (0)),(vS ((⟨#[]⟩:ByteArray))),(vI (0)),(vI (0))])),(8,(0,[(vI (q)),(vS (s.extract (↑a:Int).toNat ((a+n:Nat):Int).toNat)),(vI (0)),(vI ((↑a:Int)))]))],⟨[],[],.none,0⟩⟩).wp Pg cfg0 evp [] QR:=by
  intro q QR hq
  refine a1j (x1i s a b ((a+n:Nat):Int) q) (a1d (fun h=>⟨rfl,?_⟩) (fun h=>⟨rfl,?_⟩))
  ·have h:=of_decide_eq_true h
   rw[Int.toNat_natCast,Int.toNat_natCast,o1h hn] at h
   rw[if_pos (by omega)] at hq;exact hq
  ·have h:=of_decide_eq_false h
   rw[Int.toNat_natCast,Int.toNat_natCast,o1h hn] at h
   rw[if_neg (by omega)] at hq;exact hq
 refine a1d (fun h=>?_) (fun h=>?_)
 ·exact a1e (key 2 _ (by rw[h];rfl))
 ·have hr:=c_Reserved (s.extract (a:Int).toNat ((a+n:Nat):Int).toNat)
  have e:tx (s.extract (a:Int).toNat ((a+n:Nat):Int).toNat)=((tx s).drop a).take n:=by rw[Int.toNat_natCast,Int.toNat_natCast,o1i]
  rw[e] at hr
  refine⟨_,hr,a1d (fun h2=>?_) (fun h2=>?_)⟩
  ·exact a1e (key 3 _ (by rw[h,h2];rfl))
  ·exact a1e (key 1 _ (by rw[h,h2];rfl))
section
variable {QD:List (St→Prop)} {QR:CRes→Prop}
theorem g2p {g:FuncId} {args:List AV} {s:ByteArray} {a:Nat} {x:Except Nat Tk} {k:Int→ByteArray→Int→Int→Int→KT} (h:evp g args .none []=some ⟨.ret (oneV s a x),.none,[]⟩)
  (hk:∀i s1 i1 i2 i3,oneV s a x=.tuple [.agg [vI i,vS s1,vI i1,vI i2],vI i3]→(k i s1 i1 i2 i3).wp Pg cfg0 evp QD QR):
  (KT.exI fun i=>.exS fun s1=>.exI fun i1=>.exI fun i2=>.exI fun i3=>.call g args .none [] ⟨.ret (.tuple [.agg [vI i,vS s1,vI i1,vI i2],vI i3]),.none,[]⟩ (k i s1 i1 i2 i3)).wp Pg cfg0 evp QD QR:=by
 cases x with
 |error e=>exact⟨_,_,_,_,_,h,hk _ _ _ _ _ rfl⟩
 |ok t=>obtain⟨k',n,v⟩:=t;exact⟨_,_,_,_,_,h,hk _ _ _ _ _ rfl⟩
end
theorem c39 (c:UInt8):((c.toNat:Int)==39)=(c==39):=by
 rw[Bool.eq_iff_iff]
 simp only[beq_iff_eq]
 constructor
 ·intro h
  have:c.toNat=39:=by omega
  exact UInt8.toNat_inj.1 this
 ·rintro rfl;rfl
theorem b2Y (l:T):two l=(pre [58,62] l||(pre [61,62] l||pre [45,62] l)):=by
 cases l with
 |nil=>rfl
 |cons c r=>
  rw[u1H]
  cases r with
  |nil=>simp [pre,List.isPrefixOf]
  |cons d r=>
   simp [pre,List.isPrefixOf,j1j,Bool.beq_comm]
   cases (c==58)<;>cases (c==61)<;>cases (c==45)<;>cases (d==62)<;>rfl
theorem h2u (s:ByteArray) (a:Nat) (y:UInt8) (b b1 b2 b3 b4 b5:Bool):((((((((d2Y s a).Y y).T.B b).B b1).B b2).B b3).B b4).B b5).T.K ⟨tm2 113 [(0,(vS (s))),(1,(vI ((↑a:Int)))),(4,(.lp 4 0 0))],lm2 113 [(4,(0,[(vI (0)),(vS ((⟨#[]⟩:ByteArray))),(vI (0)),(vI (0))]))],⟨[],[],.none,0⟩⟩=x1h s a y b b1 b2 b3 b4 b5:=by
 delta x1h d2Y;rfl
end Go.Proofs
end
