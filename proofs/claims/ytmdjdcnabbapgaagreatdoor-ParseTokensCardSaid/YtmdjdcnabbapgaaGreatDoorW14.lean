/- Texts of this proof folded into one: L3. -/
import Derived.Test.YtmdjdcnabbapgaaGreatDoorW12
import Derived.Test.YtmdjdcnabbapgaaGreatDoorW13
section
/- LEX: what the program's functions answer, part 3: one, Lex -/
open Go Go.Eng Go.Lx
namespace Go.Proofs
set_option linter.unusedVariables false
set_option linter.unusedSimpArgs false
set_option maxRecDepth 100000
theorem j2q {s:ByteArray} {a:Nat} (hs:s.size≤4096) (ha:a<s.size):evp g1t [vS s,vI a] .none []=some ⟨.ret (oneV s a (one resP ((tx s).drop a))),.none,[]⟩:=by
 have hB:s.size<BIG:=by unfold BIG;omega
 obtain⟨c,r,hd,hc,hr⟩:=s1p ha
 have hlen:r.length+1=s.size-a:=by have:=congrArg List.length hd;simp [d1J] at this;simp [tx] at *;have e:=d1J s;simp [tx] at e;omega
 refine k1m (a1j (f2Y s a) (u1E hc ⟨_,_,_,_,_,_,k1w c,a1t ?_⟩))
 have hw:=fun b=>j2p (s:=s) (a:=a) (b:=b) hB (by omega)
 rw[hd] at hw⊢
 refine a1d (fun hl=>?_) (fun hl=>?_)
 ·refine g2p (hw (high c)) fun i s1 i1 i2 i3 e=>a1h ⟨rfl,e1u ?_⟩
  rw[←e]
  unfold one
  simp only[hl,Bool.true_or,if_true]
 ·refine a1d (fun hh=>?_) (fun hh=>?_)
  ·refine g2p (hw (high c)) fun i s1 i1 i2 i3 e=>a1h ⟨rfl,e1u ?_⟩
   rw[←e]
   unfold one
   simp only[hh,Bool.or_true,if_true]
  ·refine a1d (fun hg=>?_) (fun hg=>?_)
   ·have hn:=p1B digit s a (by omega)
    have h2:=j2m hB (Nat.le_of_lt ha)
    rw[hd] at hn h2
    have hall:∀x∈(c::r).take (span digit (c::r)),digit x=true:=fun x hx=>x1G x hx
    have hpos:1≤span digit (c::r):=by simp [span,hg]
    have hone:one resP (c::r)=match d1A 0 ((c::r).take (span digit (c::r))) with
      |none=>.error 1
      |some v=>.ok (4,span digit (c::r),v):=by
     unfold one
     simp only[hl,hh,hg,Bool.or_false,Bool.false_eq_true,if_false,if_true]
     cases d1A 0 ((c::r).take (span digit (c::r)))<;>rfl
    rw[hone]
    generalize span digit (c::r)=n at *
    have et:tx (s.extract (a:Int).toNat ((a+n:Nat):Int).toNat)=(c::r).take n:=by rw[Int.toNat_natCast,Int.toNat_natCast,o1i,hd]
    have hne:tx (s.extract (a:Int).toNat ((a+n:Nat):Int).toNat)≠[]:=by
     rw[et]
     cases n with
     |zero=>omega
     |succ n=>simp
    have hsz:(s.extract (a:Int).toNat ((a+n:Nat):Int).toNat).size≤281474976710656:=by
     rw[Int.toNat_natCast,Int.toNat_natCast,ByteArray.size_extract];omega
    refine⟨_,h2,by apply decide_eq_true;omega,?_⟩
    cases hv:d1A 0 ((c::r).take n) with
    |some v=>
     have hp:=z1g (v:=v) hne (by rw[et];exact hall) hsz (by rw[et];exact hv)
     exact⟨_,.inl ⟨hp,a1d (fun h=>absurd h (by decide)) (fun _=>a1h ⟨rfl,rfl⟩)⟩⟩
    |none=>
     have hp:=w1g hne (by rw[et];exact hall) hsz (by rw[et];exact hv)
     exact⟨_,.inr ⟨hp,a1d (fun _=>a1h ⟨rfl,rfl⟩) (fun h=>absurd h (by decide))⟩⟩
   ·refine u1E hc (a1d (fun hq=>?_) (fun hq=>?_))
    ·rw[c39] at hq
     have hone:one resP (c::r)=if !(r.head?.map low).getD false then .error 10 else if 32<span tyvB r+1 then .error 12 else .ok (5,span tyvB r+1,0):=by
      unfold one
      simp only[hl,hh,hg,hq,Bool.or_false,Bool.false_eq_true,if_false,if_true]
     rw[hone,h1O (by omega)]
     have hn:=p1B tyvB s (a+1) (by omega)
     have h3:=j2n hB (a:=a+1) (by omega)
     rw[←hr] at hn h3
     refine⟨_,h3,a1t (a1d (fun he=>?_) (fun he=>?_))⟩
     ·have he:((a+1+span tyvB r:Nat):Int)=((a+1:Nat):Int):=by simpa using he
      have h0:span tyvB r=0:=by omega
      have hx:(r.head?.map low).getD false=false:=by
       cases r with
       |nil=>rfl
       |cons d r=>
        have:=p1E h0 d rfl
        simp only[tyvB,Bool.or_eq_false_iff] at this
        simp [this.1]
      rw[hx]
      exact a1h (a1h ⟨rfl,rfl⟩)
     ·have he:¬((a+1+span tyvB r:Nat):Int)=((a+1:Nat):Int):=by simpa using he
      have h0:span tyvB r≠0:=by omega
      cases hrr:r with
      |nil=>rw[hrr] at h0;exact absurd rfl h0
      |cons d r'=>
       have hd2:=hr.symm.trans hrr
       obtain⟨_,hc2,_⟩:=tx_of hd2
       refine u1E hc2 ⟨_,_,_,_,_,_,k1w d,a1d (fun hb=>?_) (fun hb=>?_)⟩
       ·simp only[List.head?_cons,Option.map_some,Option.getD_some,hb,if_true]
        exact a1h (a1h ⟨rfl,rfl⟩)
       ·simp only[List.head?_cons,Option.map_some,Option.getD_some,hb,Bool.false_eq_true,if_false]
        rw[←hrr]
        refine a1e (a1j (a2L s a c _ _ _ _ _ _ c _) (a1d (fun h=>?_) (fun h=>?_)))
        ·have h:=of_decide_eq_true h
         rw[IntKind.wrap_i64] at h
         rw[if_pos (by omega)]
         exact a1h ⟨rfl,rfl⟩
        ·have h:=of_decide_eq_false h
         rw[IntKind.wrap_i64] at h
         rw[if_neg (by omega)]
         refine⟨by apply decide_eq_true;omega,a1h ⟨rfl,e1u ?_⟩⟩
         have:a+1+span tyvB r=a+(span tyvB r+1):=by omega
         rw[this];rfl
    ·rw[c39] at hq
     have hone:one resP (c::r)=if two (c::r) then .ok (6,2,0) else if z1i.contains c then .ok (6,1,0) else .error 10:=by
      unfold one
      simp only[hl,hh,hg,hq,Bool.or_false,Bool.false_eq_true,if_false]
     rw[hone]
     refine a1e (a1j (h2u s a c _ _ _ _ _ _) ?_)
     have hp:∀p:ByteArray,evp b1q [vS (s.extract (a:Int).toNat (s.size:Int).toNat),vS p] .none []=some ⟨.ret (vB (pre (tx p) (c::r))),.none,[]⟩:=fun p=>by rw[l1g,s1r,hd]
     have e2:∀p:ByteArray,tx p=[58,62]∨tx p=[61,62]∨tx p=[45,62]→pre (tx p) (c::r)=true→two (c::r)=true∧p=s.extract a (a+2):=by
      intro p hp2 hpre
      refine⟨?_,?_⟩
      ·rw[b2Y]
       rcases hp2 with h|h|h<;>(rw[h] at hpre;simp [hpre])
      ·apply b2T
       rw[o1i,hd]
       rw[s1q,decide_eq_true_iff] at hpre
       have hl2:(tx p).length=2:=by rcases hp2 with h|h|h<;>rw[h]<;>rfl
       rw[hl2] at hpre;exact hpre.2.symm
     refine v1m (fun i:Nat=>⟨tm2 113 [(0,(vS (s))),(1,(vI ((↑a:Int)))),(4,(.lp 4 0 0)),(84,(.slice 1 [[(vS ((⟨#[58,62]⟩:ByteArray)))],[(vS ((⟨#[61,62]⟩:ByteArray)))],[(vS ((⟨#[45,62]⟩:ByteArray)))]] .full)),(85,(vI 3)),(86,(vI i))],lm2 113 [(4,(0,[(vI (0)),(vS ((⟨#[]⟩:ByteArray))),(vI (0)),(vI (0))]))],⟨[],[],.none,0⟩⟩)
      (fun i=>i≤3∧(1≤i→pre [58,62] (c::r)=false)∧(2≤i→pre [61,62] (c::r)=false)∧(3≤i→pre [45,62] (c::r)=false)) (fun i=>3-i) 0 (by kernel_rfl) ⟨by omega,by omega,by omega,by omega⟩ ?_
     rintro i ⟨hi,q1,q2,q3⟩
     have step:∀{x y:ByteArray},IntKind.i64.wrap ((i:Int)+1)=((i+1:Nat):Int):=fun {_ _}=>a1Z (by omega)
     refine a1j (d2Z s a c _ _ _ _ _ _ i) (a1d (fun h=>?_) (fun h=>?_))
     ·have h:=of_decide_eq_true h
      rw[a1Z (by omega)]
      have hi3:i=0∨i=1∨i=2:=by omega
      rcases hi3 with rfl|rfl|rfl
      ·refine⟨⟨#[58,62]⟩,⟨by decide,rfl⟩,by apply decide_eq_true;omega,_,hp _,a1d (fun hb=>?_) (fun hb=>?_)⟩
       ·obtain⟨g1,g2⟩:=e2 _ (.inl rfl) hb
        rw[if_pos g1,g2];exact a1h ⟨rfl,rfl⟩
       ·exact a1e ⟨1,⟨⟨by omega,fun _=>hb,by omega,by omega⟩,by omega⟩,rfl⟩
      ·refine⟨⟨#[61,62]⟩,⟨by decide,rfl⟩,by apply decide_eq_true;omega,_,hp _,a1d (fun hb=>?_) (fun hb=>?_)⟩
       ·obtain⟨g1,g2⟩:=e2 _ (.inr (.inl rfl)) hb
        rw[if_pos g1,g2];exact a1h ⟨rfl,rfl⟩
       ·exact a1e ⟨2,⟨⟨by omega,fun _=>q1 (by omega),fun _=>hb,by omega⟩,by omega⟩,rfl⟩
      ·refine⟨⟨#[45,62]⟩,⟨by decide,rfl⟩,by apply decide_eq_true;omega,_,hp _,a1d (fun hb=>?_) (fun hb=>?_)⟩
       ·obtain⟨g1,g2⟩:=e2 _ (.inr (.inr rfl)) hb
        rw[if_pos g1,g2];exact a1h ⟨rfl,rfl⟩
       ·exact a1e ⟨3,⟨⟨by omega,fun _=>q1 (by omega),fun _=>q2 (by omega),fun _=>hb⟩,by omega⟩,rfl⟩
     ·have h:=of_decide_eq_false h
      have ht:two (c::r)=false:=by rw[b2Y,q1 (by omega),q2 (by omega),q3 (by omega)];rfl
      rw[if_neg (by rw[ht];decide)]
      refine a1h (u1E hc ⟨_,q1I c,a1d (fun hb=>?_) (fun hb=>?_)⟩)
      ·have hb:z1i.contains c=false:=by simpa using hb
       rw[if_neg (by rw[hb];decide)]
       exact⟨rfl,rfl⟩
      ·have hb:z1i.contains c=true:=by simpa using hb
       rw[if_pos hb,h1O (by omega)]
       exact⟨by apply decide_eq_true;omega,rfl,rfl⟩
def tokRow (t:Tok):List AV:=[vI t.kind,vS ⟨t.text.toArray⟩,vI t.n,vI t.at_]
def slY:List Tok→AV
 |[]=>.slice 0 [] .full
 |t::ts=>.slice 4 (tokRow t::ts.map tokRow) .yes
def slN (ts:List Tok):AV:=.slice 4 (ts.map tokRow) .no
def lexV:Except (Nat×Nat) (List Tok)→AV
 | .error (p,e)=>.tuple [.slice 4 [] .no,vI p,vI e]
 | .ok ts=>.tuple [slN ts,vI 0,vI 0]
def lexA (s:ByteArray):Except (Nat×Nat) (List Tok):=if 4096<s.size then .error (0,3) else lx resP (tx s) 0 0
def z1h (ts:List Tok):Except (Nat×Nat) (List Tok)→Except (Nat×Nat) (List Tok)
 | .error e=>.error e
 | .ok us=>.ok (ts++us)
theorem u1G (ts:List Tok) (t:Tok) (x:Except (Nat×Nat) (List Tok)):z1h ts (x.map (t:: ·))=z1h (ts++[t]) x:=by
 cases x with
 |error e=>rfl
 |ok us=>simp [z1h,Except.map]
theorem g2q {s:ByteArray} {a k n v:Nat} {l:T} (hd:(tx s).drop a=l):[vI k,vS (s.extract a (a+n)),vI v,vI a]=tokRow ⟨k,l.take n,v,a⟩:=by
 have:s.extract a (a+n)=⟨(l.take n).toArray⟩:=b2T (by rw[o1i,hd])
 rw[this];rfl
theorem y_Lex (s:ByteArray):(i2s s).F=a2H s:=by delta a2H i2s;rfl
theorem e2X (ts:List Tok) (t:Tok):slY (ts++[t])=.slice 4 (ts.map tokRow++[tokRow t]) .yes:=by
 cases ts with
 |nil=>rfl
 |cons u us=>simp [slY]
theorem x1E {l:T} {e:Nat} (h:one resP l=.error e):e≠0:=by
 cases l with
 |nil=>simp [one] at h;omega
 |cons c r=>
  unfold one at h
  simp only at h
  repeat' split at h
  all_goals (first|(injection h with h;omega)|cases h)
set_option hygiene false in
theorem c_Lex (s:ByteArray):evp c1N [vS s] .none []=some ⟨.ret (lexV (lexA s)),.none,[]⟩:=by
 refine k1m (a1j (f2Z s) (a1d (fun h=>?_) (fun h=>?_)))
 ·have h:=of_decide_eq_true h
  refine⟨rfl,e1u ?_⟩
  unfold lexA;rw[if_pos (by omega)];rfl
 have h:=of_decide_eq_false h
 have hs:s.size≤4096:=by omega
 have hB:s.size<BIG:=by unfold BIG;omega
 have hA:lexA s=lx resP (tx s) 0 0:=by unfold lexA;rw[if_neg (by omega)]
 rw[hA]
 have hX:lx resP (tx s) 0 0=z1h [] (lx resP ((tx s).drop 0) 0 0):=by rw[List.drop_zero];cases lx resP (tx s) 0 0<;>rfl
 generalize hXX:lx resP (tx s) 0 0=X
 rw[hXX] at hX
 refine a1j (y_Lex s) (v1m (fun x:List Tok×Nat=>⟨tm2 54 [(0,vS s),(5,slY x.1),(6,vI x.2)],lm2 54 [],⟨[],[],.none,0⟩⟩)
  (fun x=>x.2≤s.size∧x.1.length≤1024∧X=z1h x.1 (lx resP ((tx s).drop x.2) x.2 x.1.length)) (fun x=>s.size-x.2) ([],0) (by kernel_rfl) ⟨Nat.zero_le _,Nat.zero_le _,hX⟩ ?_)
 rintro ⟨ts,i⟩ ⟨h1,h2,h3⟩
 simp only at h1 h2 h3
 rw[c2a] at h3
 have hsk:=b2X hB h1
 have hskb:=p1D (l:=(tx s).drop i)
 rw[List.length_drop,d1J,] at hskb
 rw[List.drop_drop] at h3
 generalize hn:(skp ((tx s).drop i)).1=n at *
 generalize hb0:(skp ((tx s).drop i)).2=b0 at *
 cases ts with
 |nil=>
  refine a1j (a2M s i) ⟨_,_,hsk,a1d (fun hb=>?_) (fun hb=>?_)⟩
  ·have hb:b0=false:=by simpa using hb
   subst hb
   refine a1h ⟨rfl,e1u ?_⟩
   rw[h3];rfl
  ·have hb:b0=true:=by simpa using hb
   subst hb
   refine a1d (fun he=>?_) (fun he=>?_)
   ·have he:((i+n:Nat):Int)=(s.size:Int):=by simpa using he
    have hd:(tx s).drop (i+n)=[]:=List.drop_eq_nil_of_le (by rw[d1J];omega)
    refine a1h ⟨rfl,e1u ?_⟩
    rw[h3];simp only[hd];rfl
   ·have he:¬((i+n:Nat):Int)=(s.size:Int):=by simpa using he
    have hlt:i+n<s.size:=by omega
    have h1':=j2q hs hlt
    obtain⟨c,r,hd,hc,hr⟩:=s1p hlt
    simp only[hd] at h3 h1'
    cases hx:one resP (c::r) with
    |error e=>
     rw[hx] at h1' h3
     have hne:=x1E hx
     refine⟨_,_,_,_,_,h1',a1t (a1d (fun hz=>?_) (fun hz=>?_))⟩
     ·have hz:(e:Int)=0:=by simpa using hz
      omega
     ·refine a1e (a1j (n1R s i _ _ _ _ _ _ _ _) (a1d (fun hq=>?_) (fun hq=>?_)))
      ·refine a1h ⟨rfl,e1u ?_⟩
       rw[h3];rfl
      ·have:(e:Int)=0:=by simpa using hq
       omega
    |ok t=>
     obtain⟨k,m,v⟩:=t
     rw[hx] at h1' h3
     obtain⟨b1,b2,_⟩:=f1A hx
     have hrl:r.length+1=s.size-(i+n):=by have e:=congrArg List.length hd;rw[List.length_drop,d1J] at e;simp at e;omega
     simp only[List.length_cons] at b2
     refine⟨_,_,_,_,_,h1',a1t (a1d (fun hz=>?_) (fun hz=>absurd hz (by decide)))⟩
     refine a1d (fun hq=>absurd hq (by decide)) (fun hq=>?_)
     refine a1e (a1j (n1R s i _ _ _ _ _ _ _ _) (a1d (fun hq=>absurd hq (by decide)) (fun hq=>?_)))
     refine⟨by decide,a1e ⟨([⟨k,(c::r).take m,v,i+n⟩],i+n+m),⟨⟨by simp only;omega,by simp,?_⟩,by simp only;omega⟩,?_⟩⟩
     ·simp only[List.length_nil,Nat.zero_ne_one,if_false] at h3
      rw[h3,if_neg (by simp),u1G,h1l c r b1,←hd,List.drop_drop];try rfl
     ·have e1:IntKind.i64.wrap (((i+n:Nat):Int)+((s.extract (i+n) (i+n+m)).size:Int))=((i+n+m:Nat):Int):=by rw[o1h (by omega)];exact g2g (by omega)
      simp only[e1]
      rw[show slY [⟨k,(c::r).take m,v,i+n⟩]=.slice 4 [tokRow ⟨k,(c::r).take m,v,i+n⟩] .yes from rfl,←g2q hd];try rfl
 |cons t0 ts=>
  refine a1j (e2a s (tokRow t0::ts.map tokRow) i) ⟨_,_,hsk,a1d (fun hb=>?_) (fun hb=>?_)⟩
  ·have hb:b0=false:=by simpa using hb
   subst hb
   refine a1h ⟨rfl,e1u ?_⟩
   rw[h3];rfl
  ·have hb:b0=true:=by simpa using hb
   subst hb
   refine a1d (fun he=>?_) (fun he=>?_)
   ·have he:((i+n:Nat):Int)=(s.size:Int):=by simpa using he
    have hd:(tx s).drop (i+n)=[]:=List.drop_eq_nil_of_le (by rw[d1J];omega)
    refine a1h ⟨rfl,e1u ?_⟩
    rw[h3];simp only[hd,z1h,List.append_nil];rfl
   ·have he:¬((i+n:Nat):Int)=(s.size:Int):=by simpa using he
    have hlt:i+n<s.size:=by omega
    have h1':=j2q hs hlt
    obtain⟨c,r,hd,hc,hr⟩:=s1p hlt
    simp only[hd] at h3 h1'
    cases hx:one resP (c::r) with
    |error e=>
     rw[hx] at h1' h3
     have hne:=x1E hx
     refine⟨_,_,_,_,_,h1',a1t (a1d (fun hz=>?_) (fun hz=>?_))⟩
     ·have hz:(e:Int)=0:=by simpa using hz
      omega
     ·refine a1e (a1j (l1v s _ i _ _ _ _ _ _ _ _) (a1d (fun hq=>?_) (fun hq=>?_)))
      ·refine a1h ⟨rfl,e1u ?_⟩
       rw[h3];rfl
      ·have:(e:Int)=0:=by simpa using hq
       omega
    |ok t=>
     obtain⟨k,m,v⟩:=t
     rw[hx] at h1' h3
     obtain⟨b1,b2,_⟩:=f1A hx
     have hrl:r.length+1=s.size-(i+n):=by have e:=congrArg List.length hd;rw[List.length_drop,d1J] at e;simp at e;omega
     simp only[List.length_cons] at b2
     have hll:(tokRow t0::ts.map tokRow).length=(t0::ts).length:=by simp
     refine⟨_,_,_,_,_,h1',a1t (a1d (fun hz=>?_) (fun hz=>absurd hz (by decide)))⟩
     refine a1d (fun hq=>?_) (fun hq=>?_)
     ·have hq:((tokRow t0::ts.map tokRow).length:Int)=1024:=by simpa using hq
      rw[hll] at hq
      refine a1e (a1j (l1v s _ i _ _ _ _ _ _ _ _) (a1d (fun hq=>?_) (fun hq=>absurd hq (by decide))))
      refine a1h ⟨rfl,e1u ?_⟩
      simp only at h3
      rw[h3,if_pos (by omega)];rfl
     ·have hq:¬((tokRow t0::ts.map tokRow).length:Int)=1024:=by simpa using hq
      rw[hll] at hq
      refine a1e (a1j (l1v s _ i _ _ _ _ _ _ _ _) (a1d (fun hq=>absurd hq (by decide)) (fun hq2=>?_)))
      refine⟨?_,a1e ⟨(t0::ts++[⟨k,(c::r).take m,v,i+n⟩],i+n+m),⟨⟨by simp only;omega,by simp at hq h2⊢;omega,?_⟩,by simp only;omega⟩,?_⟩⟩
      ·rw[Nat.ble_eq];simp at h2⊢;omega
      ·simp only at h3
       rw[h3,if_neg (by omega),u1G,h1l c r b1,←hd,List.drop_drop];try simp
      ·have e1:IntKind.i64.wrap (((i+n:Nat):Int)+((s.extract (i+n) (i+n+m)).size:Int))=((i+n+m:Nat):Int):=by rw[o1h (by omega)];exact g2g (by omega)
       simp only[e1,e2X]
       rw[←g2q hd];rfl
end Go.Proofs
end
