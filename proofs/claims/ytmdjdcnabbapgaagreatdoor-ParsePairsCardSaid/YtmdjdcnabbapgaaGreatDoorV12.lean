/- Texts of this proof folded into one: XL2 L2. -/
import Derived.Test.YtmdjdcnabbapgaaGreatDoorV6
import Derived.Test.YtmdjdcnabbapgaaGreatDoorV7
import Derived.Test.YtmdjdcnabbapgaaGreatDoorV11
section
/- LEX: trees, printed by kt.py out of x2.txt -/
open Go Go.Eng
open IntKind (wrap)
namespace Go.Proofs
set_option linter.unusedVariables false
set_option maxRecDepth 100000
theorem X_Reserved_eq (s:ByteArray):kt3 b1Z [vS s] []=
 .branch (s.toList==zkb7.toList) (.need true (.ret (zkR (vB true) []))) (.branch (s.toList==zkb8.toList) (.need true (.ret (zkR (vB true) []))) (.branch (s.toList==zkb9.toList) (.need true (.ret (zkR (vB true) []))) (.branch (s.toList==h2t.toList) (.need true (.ret (zkR (vB true) []))) (.branch (s.toList==z1v.toList) (.need true (.ret (zkR (vB true) []))) (.branch (s.toList==z1u.toList) (.need true (.ret (zkR (vB true) []))) (.branch (s.toList==h2s.toList) (.need true (.ret (zkR (vB true) []))) (.branch (s.toList==e2Z.toList) (.need true (.ret (zkR (vB true) []))) (.branch (s.toList==j2c.toList) (.need true (.ret (zkR (vB true) []))) (.branch (s.toList==h2r.toList) (.need true (.ret (zkR (vB true) []))) (.branch (s.toList==e2Y.toList) (.need true (.ret (zkR (vB true) []))) (.branch (s.toList==z1t.toList) (.need true (.ret (zkR (vB true) []))) (.branch (s.toList==e2X.toList) (.need true (.ret (zkR (vB true) []))) (.branch (s.toList==h2q.toList) (.need true (.ret (zkR (vB true) []))) (.branch (s.toList==j2b.toList) (.need true (.ret (zkR (vB true) []))) (.branch (s.toList==j2a.toList) (.need true (.ret (zkR (vB true) []))) (.branch (s.toList==i2Z.toList) (.need true (.ret (zkR (vB true) []))) (.branch (s.toList==i2Y.toList) (.need true (.ret (zkR (vB true) []))) (.branch (s.toList==h2p.toList) (.need true (.ret (zkR (vB true) []))) (.branch (s.toList==z1s.toList) (.need true (.ret (zkR (vB true) []))) (.branch (s.toList==i2X.toList) (.need true (.ret (zkR (vB true) []))) (.branch (s.toList==z1r.toList) (.need true (.ret (zkR (vB true) []))) (.branch (s.toList==e2W.toList) (.need true (.ret (zkR (vB true) []))) (.branch (s.toList==i2W.toList) (.need true (.ret (zkR (vB true) []))) (.need true (.ret (zkR (vB false) [])))))))))))))))))))))))))):=by kernel_rfl
end Go.Proofs
end

section
/- LEX: what the program's functions answer, part 2: Reserved, ParseInt, ContainsRune, word, one -/
open Go Go.Eng Go.Lx
namespace Go.Proofs
set_option linter.unusedVariables false
set_option linter.unusedSimpArgs false
set_option maxRecDepth 100000
def j2w:List T:=[[98,111,111,108],[99,97,115,101],[100,97,116,97],[101,108,115,101],[101,110,100],[102,97,108,115,101],[102,110],[102,117,110],[102,117,110,99,116,111,114],[105,102],[105,110],[105,110,116],[108,101,116],[111,102],
 [115,105,103],[115,105,103,110,97,116,117,114,101],[115,116,114,117,99,116],[115,116,114,117,99,116,117,114,101],[116,104,101,110],[116,114,117,101],[116,121,112,101],[117,110,105,116],[118,97,108],[119,104,101,114,101]]
def resP (t:T):Bool:=j2w.any fun w=>decide (t=w)
set_option maxHeartbeats 1000000 in
theorem c_Reserved (s:ByteArray):evp b1Z [vS s] .none []=some ⟨.ret (vB (resP (tx s))),.none,[]⟩:=by
 refine k1Q (a1j (X_Reserved_eq s) ?_)
 repeat' first
  |(refine a1d (fun h=>⟨rfl,e1w (by rw[n1E] at h;rw[of_decide_eq_true h];rfl)⟩) (fun h=>?_);rw[n1E,decide_eq_false_iff_not] at h)
  |(refine⟨rfl,e1w (congrArg vB ?_)⟩;unfold resP j2w;simp only[List.any_cons,List.any_nil];simp_all [tx])
def te:TypeId:=c1d
theorem z1x {t:ByteArray} {v:Nat} (hn:tx t≠[]) (hd:∀c∈tx t,digit c=true) (hsz:t.size≤281474976710656) (h:d1E 0 (tx t)=some v):
  evp c1L [vS t,vI 10,vI 64] .none []=some ⟨.ret (.tuple [vI v,.val .nilIface]),.none,[]⟩:=by
 refine g2l (e:=fun args H=>(e1S c1d args).map fun v=>(Out.ret v,H)) rfl ?_
 simp only[e1S,vS,vI,if_pos hsz]
 have:=u1Q hn hd
 rw[h] at this
 simp only[tx] at this
 rw[this];rfl
theorem w1q {t:ByteArray} (hn:tx t≠[]) (hd:∀c∈tx t,digit c=true) (hsz:t.size≤281474976710656) (h:d1E 0 (tx t)=none):
  evp c1L [vS t,vI 10,vI 64] .none []=some ⟨.ret (.tuple [vI (Lib.intSat 64 t.data.toList),.iface c1d .any]),.none,[]⟩:=by
 refine g2l (e:=fun args H=>(e1S c1d args).map fun v=>(Out.ret v,H)) rfl ?_
 simp only[e1S,vS,vI,if_pos hsz]
 have:=u1Q hn hd
 rw[h] at this
 simp only[tx] at this
 rw[this];rfl
def zT:AV:=.agg [vI 0,vS ⟨#[]⟩,vI 0,vI 0]
def oneV (s:ByteArray) (a:Nat):Except Nat Tk→AV
 | .error e=>.tuple [zT,vI e]
 | .ok (k,n,v)=>.tuple [.agg [vI k,vS (s.extract a (a+n)),vI v,vI a],vI 0]
theorem o1k {s:ByteArray} {a n:Nat} (h:a+n≤s.size):(s.extract a (a+n)).size=n:=by
 rw[ByteArray.size_extract];omega
theorem p1F (p:UInt8→Bool) (s:ByteArray) (a:Nat) (ha:a≤s.size):a+span p ((tx s).drop a)≤s.size:=by
 have:=m1R p ((tx s).drop a)
 rw[List.length_drop,e1e] at this;omega
theorem o1l (s:ByteArray) (a n:Nat):tx (s.extract a (a+n))=((tx s).drop a).take n:=by rw[x1T];congr 1;omega
theorem j2x {s:ByteArray} {a:Nat} {b:Bool} (hs:s.size<BIG) (ha:a≤s.size):evp g1e [vS s,vI a,vB b] .none []=
  some ⟨.ret (oneV s a (if 32<span i1n ((tx s).drop a) then .error 12 else .ok (if b then 2 else if resP (((tx s).drop a).take (span i1n ((tx s).drop a))) then 3 else 1,span i1n ((tx s).drop a),0))),.none,[]⟩:=by
 have hn:=p1F i1n s a ha
 generalize hN:span i1n ((tx s).drop a)=n at *
 have h1:=j2t hs ha
 rw[hN] at h1
 refine k1Q (a1j (e2p s a b) ⟨_,h1,by apply decide_eq_true;omega,a1s ?_⟩)
 have key:∀(q:Nat) (QR:CRes→Prop),QR ⟨.ret (oneV s a (if 32<n then .error 12 else .ok (q,n,0))),.none,[]⟩→(((e2o s a b).I ((a+n:Nat):Int)).T.T.K ⟨tm2 29 [(6,(.lp 6 0 0)),(8,(.lp 8 0 0))],lm2 29 [(6,(0,[(vI (0)),(vS ((⟨#[]⟩:ByteArray))),(vI (0)),(vI (0))])),(8,(0,[(vI (q)),(vS (s.extract (↑a:Int).toNat ((a+n:Nat):Int).toNat)),(vI (0)),(vI ((↑a:Int)))]))],⟨[],[],.none,0⟩⟩).wp Pg cfg0 evp [] QR:=by
  intro q QR hq
  refine a1j (x1u s a b ((a+n:Nat):Int) q) (a1d (fun h=>⟨rfl,?_⟩) (fun h=>⟨rfl,?_⟩))
  ·have h:=of_decide_eq_true h
   rw[Int.toNat_natCast,Int.toNat_natCast,o1k hn] at h
   rw[if_pos (by omega)] at hq;exact hq
  ·have h:=of_decide_eq_false h
   rw[Int.toNat_natCast,Int.toNat_natCast,o1k hn] at h
   rw[if_neg (by omega)] at hq;exact hq
 refine a1d (fun h=>?_) (fun h=>?_)
 ·exact a1e (key 2 _ (by rw[h];rfl))
 ·have hr:=c_Reserved (s.extract (a:Int).toNat ((a+n:Nat):Int).toNat)
  have e:tx (s.extract (a:Int).toNat ((a+n:Nat):Int).toNat)=((tx s).drop a).take n:=by rw[Int.toNat_natCast,Int.toNat_natCast,o1l]
  rw[e] at hr
  refine⟨_,hr,a1d (fun h2=>?_) (fun h2=>?_)⟩
  ·exact a1e (key 3 _ (by rw[h,h2];rfl))
  ·exact a1e (key 1 _ (by rw[h,h2];rfl))
section
variable {QD:List (St→Prop)} {QR:CRes→Prop}
theorem g2y {g:FuncId} {args:List AV} {s:ByteArray} {a:Nat} {x:Except Nat Tk} {k:Int→ByteArray→Int→Int→Int→KT} (h:evp g args .none []=some ⟨.ret (oneV s a x),.none,[]⟩)
  (hk:∀i s1 i1 i2 i3,oneV s a x=.tuple [.agg [vI i,vS s1,vI i1,vI i2],vI i3]→(k i s1 i1 i2 i3).wp Pg cfg0 evp QD QR):
  (KT.exI fun i=>.exS fun s1=>.exI fun i1=>.exI fun i2=>.exI fun i3=>.call g args .none [] ⟨.ret (.tuple [.agg [vI i,vS s1,vI i1,vI i2],vI i3]),.none,[]⟩ (k i s1 i1 i2 i3)).wp Pg cfg0 evp QD QR:=by
 cases x with
 |error e=>exact⟨_,_,_,_,_,h,hk _ _ _ _ _ rfl⟩
 |ok t=>obtain⟨k',n,v⟩:=t;exact⟨_,_,_,_,_,h,hk _ _ _ _ _ rfl⟩
end
theorem c39 (c:UInt8):((c.toNat:Int)==39)=(c==39):=by
 rw[Bool.eq_iff_iff]
 simp only[beq_iff_eq]
 constructor
 ·intro h
  have:c.toNat=39:=by omega
  exact UInt8.toNat_inj.1 this
 ·rintro rfl;rfl
theorem c2p (l:T):two l=(pre [58,62] l||(pre [61,62] l||pre [45,62] l)):=by
 cases l with
 |nil=>rfl
 |cons c r=>
  rw[r1B]
  cases r with
  |nil=>simp [pre,List.isPrefixOf]
  |cons d r=>
   simp [pre,List.isPrefixOf,i1o,Bool.beq_comm]
   cases (c==58)<;>cases (c==61)<;>cases (c==45)<;>cases (d==62)<;>rfl
theorem h2B (s:ByteArray) (a:Nat) (y:UInt8) (b b1 b2 b3 b4 b5:Bool):((((((((e2q s a).Y y).T.B b).B b1).B b2).B b3).B b4).B b5).T.K ⟨tm2 113 [(0,(vS (s))),(1,(vI ((↑a:Int)))),(4,(.lp 4 0 0))],lm2 113 [(4,(0,[(vI (0)),(vS ((⟨#[]⟩:ByteArray))),(vI (0)),(vI (0))]))],⟨[],[],.none,0⟩⟩=x1t s a y b b1 b2 b3 b4 b5:=by
 delta x1t e2q;rfl
end Go.Proofs
end
