/- Texts of this proof folded into one: L1. -/
import Derived.Test.YtmdjdcnabbapgaaGreatDoorW8
section
/- LEX: what the program's functions answer, part 1: HasPrefix, run, remark, skipped -/
open Go Go.Eng Go.Lx
namespace Go.Proofs
set_option linter.unusedVariables false
set_option linter.unusedSimpArgs false
set_option maxRecDepth 100000
def pre (p l:T):Bool:=p.isPrefixOf l
theorem s1q (p l:T):pre p l=decide (p.length≤l.length∧l.take p.length=p):=by
 unfold pre
 rw[Bool.eq_iff_iff,decide_eq_true_iff,List.isPrefixOf_iff_prefix,List.prefix_iff_eq_take]
 constructor
 ·intro h
  refine⟨?_,h.symm⟩
  have:=congrArg List.length h
  rw[List.length_take] at this;omega
 ·rintro ⟨_,h⟩;exact h.symm
theorem l1g (s p:ByteArray):evp b1q [vS s,vS p] .none []=some ⟨.ret (vB (pre (tx p) (tx s))),.none,[]⟩:=by
 refine k1m (a1j (q1T s p) (a1d (fun h=>?_) (fun h=>?_)))
 ·have h:=of_decide_eq_true h
  refine⟨by apply decide_eq_true;omega,rfl,rfl,e1u ?_⟩
  rw[n1B,x1D,s1q]
  congr 2
  simp only[Int.toNat_zero,Int.toNat_natCast,List.drop_zero,Nat.sub_zero,decide_eq_decide,d1J]
  exact propext ⟨fun e=>⟨by omega,e⟩,fun e=>e.2⟩
 ·have h:=of_decide_eq_false h
  refine⟨rfl,rfl,e1u ?_⟩
  rw[s1q]
  congr 2
  symm
  rw[decide_eq_false_iff_not]
  rintro ⟨e,_⟩
  rw[d1J,d1J] at e;omega
theorem b2U (l:T):pre [40,42] l=Lx.opens l:=by
 cases l with
 |nil=>rfl
 |cons c r=>
  rw[s1u]
  cases r with
  |nil=>simp [pre,List.isPrefixOf]
  |cons d r=>simp [pre,List.isPrefixOf,Bool.beq_comm]
theorem u1F (c:UInt8) (r:T):f1g (c::r)=(c==42&&(r.head? ==some 41)):=by
 cases r with
 |nil=>unfold f1g;simp
 |cons d r=>
  by_cases h1:c=42
  ·subst h1
   by_cases h2:d=41
   ·subst h2;simp [f1g]
   ·unfold f1g;simp [h2]
  ·unfold f1g;simp [h1]
theorem z1f (l:T):pre [42,41] l=f1g l:=by
 cases l with
 |nil=>rfl
 |cons c r=>
  rw[u1F]
  cases r with
  |nil=>simp [pre,List.isPrefixOf]
  |cons d r=>simp [pre,List.isPrefixOf,Bool.beq_comm]
theorem s1r (s:ByteArray) (i:Nat):tx (s.extract (i:Int).toNat (s.size:Int).toNat)=(tx s).drop i:=by
 rw[x1D,Int.toNat_natCast,Int.toNat_natCast,List.take_of_length_le]
 rw[List.length_drop,d1J];omega
theorem b2V (s:ByteArray) (i:Nat):evp b1q [vS (s.extract (i:Int).toNat (s.size:Int).toNat),vS ⟨#[40,42]⟩] .none []=some ⟨.ret (vB (Lx.opens ((tx s).drop i))),.none,[]⟩:=by
 rw[l1g,s1r,←b2U]
theorem e2U (s:ByteArray) (i:Nat):evp b1q [vS (s.extract (i:Int).toNat (s.size:Int).toNat),vS ⟨#[42,41]⟩] .none []=some ⟨.ret (vB (Lx.f1g ((tx s).drop i))),.none,[]⟩:=by
 rw[l1g,s1r,←z1f]
theorem h2t (s:ByteArray) (a:Nat) (g:FuncId):kt3 e1Q [vS s,vI a,.func (.func g) [] []] []=d2V s a g:=by delta d2V;rfl
theorem h1O {x:Nat} (h:x<BIG):IntKind.i64.wrap ((x:Int)+1)=((x+1:Nat):Int):=a1Z (by unfold BIG at h;omega)
theorem j2l {s:ByteArray} {a:Nat} (hs:s.size<BIG) (ha:a≤s.size):evp e1Q [vS s,vI a,.func (.func f1o) [] []] .none []=some ⟨.ret (vI ((a+span i1m ((tx s).drop a):Nat):Int)),.none,[]⟩:=by
 refine k1m (a1j (h2t ..) ?_)
 refine v1m (fun i:Nat=>⟨tm2 22 [(0,vS s),(1,vI i),(2,.func (.func f1o) [] [])],lm2 22 [],⟨[],[],.none,0⟩⟩) (fun i=>a≤i∧i≤s.size∧i+span i1m ((tx s).drop i)=a+span i1m ((tx s).drop a)) (fun i=>s.size-i) a (by kernel_rfl) ⟨Nat.le_refl _,ha,rfl⟩ ?_
 rintro i ⟨h1,h2,h3⟩
 refine a1j (a2I s a i) (a1d (fun h=>?_) (fun h=>?_))
 ·have h:=of_decide_eq_true h
  obtain⟨c,r,hd,hc,hr⟩:=s1p (s:=s) (i:=i) (by omega)
  rw[hd,span] at h3
  refine u1E hc ⟨_,_,_,_,_,_,k1w c,rfl,a1d (fun hb=>?_) (fun hb=>?_)⟩
  ·rw[if_pos hb,hr] at h3
   rw[h1O (by omega)]
   exact a1e ⟨i+1,⟨⟨by omega,by omega,by omega⟩,by omega⟩,rfl⟩
  ·rw[if_neg (by rw[hb];decide)] at h3
   refine a1h ⟨rfl,e1u ?_⟩
   rw[←h3];rfl
 ·have h:=of_decide_eq_false h
  have:i=s.size:=by omega
  subst this
  refine a1h ⟨rfl,e1u ?_⟩
  rw[←h3,List.drop_eq_nil_of_le (by rw[d1J];omega)];rfl
theorem j2m {s:ByteArray} {a:Nat} (hs:s.size<BIG) (ha:a≤s.size):evp e1Q [vS s,vI a,.func (.func g1b) [] []] .none []=some ⟨.ret (vI ((a+span digit ((tx s).drop a):Nat):Int)),.none,[]⟩:=by
 refine k1m (a1j (h2t ..) ?_)
 refine v1m (fun i:Nat=>⟨tm2 22 [(0,vS s),(1,vI i),(2,.func (.func g1b) [] [])],lm2 22 [],⟨[],[],.none,0⟩⟩) (fun i=>a≤i∧i≤s.size∧i+span digit ((tx s).drop i)=a+span digit ((tx s).drop a)) (fun i=>s.size-i) a (by kernel_rfl) ⟨Nat.le_refl _,ha,rfl⟩ ?_
 rintro i ⟨h1,h2,h3⟩
 refine a1j (a2J s a i) (a1d (fun h=>?_) (fun h=>?_))
 ·have h:=of_decide_eq_true h
  obtain⟨c,r,hd,hc,hr⟩:=s1p (s:=s) (i:=i) (by omega)
  rw[hd,span] at h3
  refine u1E hc ⟨_,_,_,_,_,_,k1w c,rfl,a1d (fun hb=>?_) (fun hb=>?_)⟩
  ·rw[if_pos hb,hr] at h3
   rw[h1O (by omega)]
   exact a1e ⟨i+1,⟨⟨by omega,by omega,by omega⟩,by omega⟩,rfl⟩
  ·rw[if_neg (by rw[hb];decide)] at h3
   refine a1h ⟨rfl,e1u ?_⟩
   rw[←h3];rfl
 ·have h:=of_decide_eq_false h
  have:i=s.size:=by omega
  subst this
  refine a1h ⟨rfl,e1u ?_⟩
  rw[←h3,List.drop_eq_nil_of_le (by rw[d1J];omega)];rfl
theorem j2n {s:ByteArray} {a:Nat} (hs:s.size<BIG) (ha:a≤s.size):evp e1Q [vS s,vI a,.func (.func g1c) [] []] .none []=some ⟨.ret (vI ((a+span tyvB ((tx s).drop a):Nat):Int)),.none,[]⟩:=by
 refine k1m (a1j (h2t ..) ?_)
 refine v1m (fun i:Nat=>⟨tm2 22 [(0,vS s),(1,vI i),(2,.func (.func g1c) [] [])],lm2 22 [],⟨[],[],.none,0⟩⟩) (fun i=>a≤i∧i≤s.size∧i+span tyvB ((tx s).drop i)=a+span tyvB ((tx s).drop a)) (fun i=>s.size-i) a (by kernel_rfl) ⟨Nat.le_refl _,ha,rfl⟩ ?_
 rintro i ⟨h1,h2,h3⟩
 refine a1j (a2K s a i) (a1d (fun h=>?_) (fun h=>?_))
 ·have h:=of_decide_eq_true h
  obtain⟨c,r,hd,hc,hr⟩:=s1p (s:=s) (i:=i) (by omega)
  rw[hd,span] at h3
  refine u1E hc ⟨_,_,_,_,_,_,k1w c,rfl,a1d (fun hb=>?_) (fun hb=>?_)⟩
  ·rw[if_pos hb,hr] at h3
   rw[h1O (by omega)]
   exact a1e ⟨i+1,⟨⟨by omega,by omega,by omega⟩,by omega⟩,rfl⟩
  ·rw[if_neg (by rw[hb];decide)] at h3
   refine a1h ⟨rfl,e1u ?_⟩
   rw[←h3];rfl
 ·have h:=of_decide_eq_false h
  have:i=s.size:=by omega
  subst this
  refine a1h ⟨rfl,e1u ?_⟩
  rw[←h3,List.drop_eq_nil_of_le (by rw[d1J];omega)];rfl
theorem e2V (s:ByteArray) (a:Nat):kt3 f1k [vS s,vI a] []=t1y s a:=by delta t1y;rfl
def remA (a:Nat):Option Nat→Int
 |none=> -1
 |some n=>((a+n:Nat):Int)
theorem g2o {x:Nat} (h:x<BIG):IntKind.i64.wrap ((x:Int)+2)=((x+2:Nat):Int):=by
 rw[IntKind.wrap_i64];unfold BIG at h;omega
theorem e2W {s:ByteArray} {a:Nat} (hs:s.size<BIG) (ha:a≤s.size) (ho:Lx.opens ((tx s).drop a)=true):evp f1k [vS s,vI a] .none []=some ⟨.ret (vI (remA a (rem ((tx s).drop a) 0))),.none,[]⟩:=by
 refine k1m (a1j (e2V ..) ?_)
 refine v1m (fun x:Nat×Nat=>⟨tm2 33 [(0,vS s),(1,vI x.1),(5,vI x.2)],lm2 33 [],⟨[],[],.none,0⟩⟩)
  (fun x=>a≤x.1∧x.1≤s.size∧remA x.1 (rem ((tx s).drop x.1) x.2)=remA a (rem ((tx s).drop a) 0)∧x.2≤x.1∧(x.2=0→Lx.opens ((tx s).drop x.1)=true)) (fun x=>s.size-x.1) (a,0) (by kernel_rfl) ⟨Nat.le_refl _,ha,rfl,Nat.zero_le _,fun _=>ho⟩ ?_
 rintro ⟨i,d⟩ ⟨h1,h2,h3,h4,h5⟩
 simp only at h1 h2 h3 h4 h5
 refine a1j (v1v s a i d) (a1d (fun h=>?_) (fun h=>?_))
 ·have h:=of_decide_eq_true h
  obtain⟨c,r,hd,hc,hr⟩:=s1p (s:=s) (i:=i) (by omega)
  have hr2:r.drop 1=(tx s).drop (i+2):=by rw[hr,List.drop_drop]
  have hl2:∀{q:Nat→Nat} {x:Option Nat} {n:Nat},remA i (x.map (· +n))=remA (i+n) x:=by
   intro q x n
   cases x with
   |none=>rfl
   |some y=>simp only[Option.map_some,remA];congr 1;omega
  have hlen:(tx s).drop i=c::r→r≠[]→i+2≤s.size:=by
   intro e hne
   have:=congrArg List.length e
   cases r with
   |nil=>exact absurd rfl hne
   |cons x r=>simp only[List.length_drop,d1J,List.length_cons] at this;omega
  rw[hd,o1j] at h3
  refine⟨by apply decide_eq_true;omega,_,b2V s i,a1d (fun hb=>?_) (fun hb=>?_)⟩
  ·rw[hd] at hb
   have hne:r≠[]:=by rintro rfl;rw[s1u] at hb;simp at hb
   rw[if_pos hb,hr2,hl2 (q:=id)] at h3
   rw[g2o (by omega),h1O (by omega)]
   exact a1e ⟨(i+2,d+1),⟨⟨by simp only;omega,hlen hd hne,h3,by simp only;omega,fun h=>by simp at h⟩,by simp only;omega⟩,rfl⟩
  ·rw[hd] at hb
   have hd0:1≤d:=by
    rcases Nat.eq_zero_or_pos d with e|e
    ·rw[hd,hb] at h5;exact absurd (h5 e) (by decide)
    ·exact e
   rw[if_neg (by rw[hb];decide)] at h3
   have hw:IntKind.i64.wrap ((d:Int)-1)=((d-1:Nat):Int):=by rw[IntKind.wrap_i64];unfold BIG at hs;omega
   refine⟨by apply decide_eq_true;omega,_,e2U s i,a1d (fun hb2=>?_) (fun hb2=>?_)⟩
   ·rw[hd] at hb2
    have hne:r≠[]:=by rintro rfl;rw[u1F] at hb2;simp at hb2
    rw[if_pos hb2] at h3
    rw[hw,g2o (by omega)]
    refine a1d (fun hz=>?_) (fun hz=>?_)
    ·have hz:((d-1:Nat):Int)=0:=by simpa using hz
     rw[if_pos (by omega)] at h3
     exact a1h ⟨rfl,e1u (by rw[←h3];rfl)⟩
    ·have hz:¬((d-1:Nat):Int)=0:=by simpa using hz
     rw[if_neg (by omega),hr2,hl2 (q:=id)] at h3
     exact a1e ⟨(i+2,d-1),⟨⟨by simp only;omega,hlen hd hne,h3,by simp only;omega,fun h=>by simp only at h;omega⟩,by simp only;omega⟩,rfl⟩
   ·rw[hd] at hb2
    rw[if_neg (by rw[hb2];decide),hr,hl2 (q:=id)] at h3
    rw[h1O (by omega)]
    exact a1e ⟨(i+1,d),⟨⟨by simp only;omega,by simp only;omega,h3,by simp only;omega,fun h=>by simp only at h;omega⟩,by simp only;omega⟩,rfl⟩
 ·have h:=of_decide_eq_false h
  have:i=s.size:=by omega
  subst this
  refine a1h ⟨rfl,e1u ?_⟩
  rw[←h3,List.drop_eq_nil_of_le (by rw[d1J];omega),b2Z];rfl
theorem b2W (s:ByteArray) (a:Nat):kt3 d1R [vS s,vI a] []=q1v s a:=by delta q1v;rfl
theorem b2X {s:ByteArray} {a:Nat} (hs:s.size<BIG) (ha:a≤s.size):evp d1R [vS s,vI a] .none []=some ⟨.ret (.tuple [vI ((a+(skp ((tx s).drop a)).1:Nat):Int),vB (skp ((tx s).drop a)).2]),.none,[]⟩:=by
 refine k1m (a1j (b2W ..) ?_)
 refine v1m (fun i:Nat=>⟨tm2 33 [(0,vS s),(1,vI i)],lm2 33 [],⟨[],[],.none,0⟩⟩)
  (fun i=>a≤i∧i≤s.size∧i+(skp ((tx s).drop i)).1=a+(skp ((tx s).drop a)).1∧(skp ((tx s).drop i)).2=(skp ((tx s).drop a)).2) (fun i=>s.size-i) a (by kernel_rfl) ⟨Nat.le_refl _,ha,rfl,rfl⟩ ?_
 rintro i ⟨h1,h2,h3,h4⟩
 rw[←h3,←h4]
 refine a1j (t1z s a i) (a1d (fun h=>?_) (fun h=>?_))
 ·have h:=of_decide_eq_true h
  obtain⟨c,r,hd,hc,hr⟩:=s1p (s:=s) (i:=i) (by omega)
  refine u1E hc ⟨_,_,_,_,_,_,k1w c,a1d (fun hb=>?_) (fun hb=>?_)⟩
  ·rw[hd,g1k,if_pos hb] at h3 h4⊢
   rw[hr] at h3 h4⊢
   rw[h1O (by omega)]
   exact a1e ⟨i+1,⟨⟨by omega,by omega,by simp only at h3⊢;omega,rfl⟩,by omega⟩,rfl⟩
  ·refine⟨by apply decide_eq_true;omega,_,b2V s i,a1d (fun ho=>?_) (fun ho=>?_)⟩
   ·refine⟨_,e2W hs h2 ho,?_⟩
    rw[hd] at ho⊢
    rw[hd,g1k,if_neg (by rw[hb];decide),if_pos ho] at h3 h4
    rw[g1k,if_neg (by rw[hb];decide),if_pos ho]
    cases hrm:rem (c::r) 0 with
    |none=>
     simp only
     refine a1d (fun hz=>?_) (fun hz=>?_)
     ·exact a1h ⟨rfl,rfl⟩
     ·simp [remA] at hz
    |some n=>
     simp only[hrm] at h3 h4⊢
     have hn:=i1B hrm
     have hl:=congrArg List.length hd
     simp only[List.length_drop,d1J,List.length_cons] at hl hn
     refine a1d (fun hz=>?_) (fun hz=>?_)
     ·have:=of_decide_eq_true hz;simp only[remA] at this;omega
     ·have he:r.drop (n-1)=(tx s).drop (i+n):=by rw[h1l c r (by omega),←hd,List.drop_drop]
      rw[he] at h3 h4⊢
      exact a1e ⟨i+n,⟨⟨by omega,by omega,by omega,rfl⟩,by omega⟩,rfl⟩
   ·rw[hd] at ho
    rw[hd,g1k,if_neg (by rw[hb];decide),if_neg (by rw[ho];decide)]
    exact a1h ⟨rfl,rfl⟩
 ·have h:=of_decide_eq_false h
  have:i=s.size:=by omega
  subst this
  rw[List.drop_eq_nil_of_le (by rw[d1J];omega),p1C]
  exact a1h ⟨rfl,rfl⟩
end Go.Proofs
end
