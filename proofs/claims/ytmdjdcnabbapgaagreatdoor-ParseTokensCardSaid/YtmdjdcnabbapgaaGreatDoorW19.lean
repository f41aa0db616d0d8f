/- Texts of this proof folded into one: T4d T5 U4 RX3 Q1 RX4 Q2 Q3 Q4 Z8 Z10 U5 G13 RX9 R5 RX12 U7 U8 G14 RX10 R6. -/
import Derived.Test.YtmdjdcnabbapgaaGreatDoorW18
import Derived.Test.YtmdjdcnabbapgaaGreatDoorW16
import Derived.Test.YtmdjdcnabbapgaaGreatDoorW15
import Derived.Test.YtmdjdcnabbapgaaGreatDoorW7
import Derived.Test.YtmdjdcnabbapgaaGreatDoorW10
section
/- the checks of plain data's nodes end well or with an error -/
open Go Go.Eng
namespace Go.Proofs.Ck
set_option linter.unusedVariables false
set_option linter.unusedSimpArgs false
set_option maxRecDepth 100000
theorem g1n {l:List Row} {r:List AV} (h:r∈avss l):∃x∈l,r=avs x:=by
 rw[g1J] at h
 obtain⟨x,hx,rfl⟩:=List.mem_map.1 h
 exact⟨x,hx,rfl⟩
theorem e1k {l:List Row} (h:∀r∈l,r≠[]):l.length≤c1f l:=by
 induction l with
 |nil=>simp
 |cons r l ih=>
  have h1:=ih fun x hx=>h x (by simp [hx])
  have h2:=b2y r
  have h3:0<r.length:=List.length_pos_iff.2 (h r (by simp))
  simp only[List.length_cons,c1f];omega
theorem l1p {p:List Row} (h:∀x∈p,Has Pg b1T x) (hb:c1f p<c1h):Strs (avss p):=by
 intro r hr
 obtain⟨x,hx,rfl⟩:=g1n hr
 obtain⟨s,rfl,_⟩:=r1I (h x hx)
 have:=e1j hx
 simp only[d1g,CT.bulk] at this
 exact⟨s,rfl,by omega⟩
theorem j1r {p:List Row} (h:∀x∈p,Has Pg b1T x) (hb:c1f p<c1h):(avss p).length<c1h:=by
 have:=e1k fun r hr=>(by obtain⟨s,rfl,_⟩:=r1I (h r hr);simp:r≠[])
 rw[b1L];omega
theorem g1P {l:List Row} {r:Row} (h:r∈l):oneR r+cntR r≤cnts l:=by
 induction l with
 |nil=>cases h
 |cons a l ih=>
  rw[cnts]
  rcases List.mem_cons.1 h with rfl|h
  ·omega
  ·have:=ih h;omega
def CkOk (f t N:Nat):Prop:=∀r:Row,oneR r+cntR r≤N→Has Pg t r→d1g r<c1h→∃er,er≠4∧evp f [.agg (avs r)] .none []=some ⟨oc er,.none,[]⟩
structure CkAll (N:Nat):Prop where
 ty:CkOk a1F c1e N
 pat:CkOk b1n c1A N
 exp:CkOk b1c c1z N
 con:CkOk b1y e1f N
 dec:CkOk b1x c1u N
 exp_1:CkOk b1s c1u N
 mod:CkOk b1t e1g N
 sig:CkOk a1Y d1o N
 spec:CkOk b1F d1G N
theorem l_ty {N:Nat} (ih:∀M,M<N→CkAll M) {l:List Row} (hc:cnts l<N) (ht:∀r∈l,Has Pg c1e r) (hb:c1f l<c1h):
  ∃er,er≠4∧evp a1m [.slice 4 (avss l) .no,.func (.func a1F) [] []] .none []=some ⟨oc er,.none,[]⟩:=by
 have hl:=e1k fun r hr=>i2h (ht r hr)
 refine h2X (by rw[b1L];omega) fun r hr=>?_
 obtain⟨x,hx,rfl⟩:=g1n hr
 have h1:=g1P hx
 have h2:=e1j hx
 have h3:=(ih (cnts l) hc).ty x (by omega) (ht x hx) (by omega)
 obtain⟨xk,xn,xp,xa,rfl,_⟩:=v1n (ht x hx)
 exact⟨xk,xn,avss xp,avss xa,rfl,h3⟩
theorem j2P {N:Nat} (ih:∀M,M<N→CkAll M) {l:List Row} (hc:cnts l<N) (ht:∀r∈l,Has Pg c1A r) (hb:c1f l<c1h):
  ∃er,er≠4∧evp a1S [.slice 5 (avss l) .no,.func (.func b1n) [] []] .none []=some ⟨oc er,.none,[]⟩:=by
 have hl:=e1k fun r hr=>g2B (ht r hr)
 refine d2g (by rw[b1L];omega) fun r hr=>?_
 obtain⟨x,hx,rfl⟩:=g1n hr
 have h1:=g1P hx
 have h2:=e1j hx
 have h3:=(ih (cnts l) hc).pat x (by omega) (ht x hx) (by omega)
 obtain⟨xk,xn,xp,xm,xa,rfl,_⟩:=s1V (ht x hx)
 exact⟨xk,xn,avss xp,xm,avss xa,rfl,h3⟩
theorem h2Y {N:Nat} (ih:∀M,M<N→CkAll M) {l:List Row} (hc:cnts l<N) (ht:∀r∈l,Has Pg c1z r) (hb:c1f l<c1h):
  ∃er,er≠4∧evp a1N [.slice 8 (avss l) .no,.func (.func b1c) [] []] .none []=some ⟨oc er,.none,[]⟩:=by
 have hl:=e1k fun r hr=>d2t (ht r hr)
 refine d2h (by rw[b1L];omega) fun r hr=>?_
 obtain⟨x,hx,rfl⟩:=g1n hr
 have h1:=g1P hx
 have h2:=e1j hx
 have h3:=(ih (cnts l) hc).exp x (by omega) (ht x hx) (by omega)
 obtain⟨xk,xo,xm,xp,xa,xb,xc,xd,rfl,_⟩:=q1o (ht x hx)
 exact⟨xk,xo,xm,avss xp,avss xa,avss xb,avss xc,avss xd,rfl,h3⟩
theorem h2Z {N:Nat} (ih:∀M,M<N→CkAll M) {l:List Row} (hc:cnts l<N) (ht:∀r∈l,Has Pg e1f r) (hb:c1f l<c1h):
  ∃er,er≠4∧evp a1O [.slice 2 (avss l) .no,.func (.func b1y) [] []] .none []=some ⟨oc er,.none,[]⟩:=by
 have hl:=e1k fun r hr=>g2C (ht r hr)
 refine d2i (by rw[b1L];omega) fun r hr=>?_
 obtain⟨x,hx,rfl⟩:=g1n hr
 have h1:=g1P hx
 have h2:=e1j hx
 have h3:=(ih (cnts l) hc).con x (by omega) (ht x hx) (by omega)
 obtain⟨xn,xa,rfl,_⟩:=s1W (ht x hx)
 exact⟨xn,avss xa,rfl,h3⟩
theorem j2Q {N:Nat} (ih:∀M,M<N→CkAll M) {l:List Row} (hc:cnts l<N) (ht:∀r∈l,Has Pg c1u r) (hb:c1f l<c1h):
  ∃er,er≠4∧evp a1x [.slice 9 (avss l) .no,.func (.func b1x) [] []] .none []=some ⟨oc er,.none,[]⟩:=by
 have hl:=e1k fun r hr=>d2u (ht r hr)
 refine d2j (by rw[b1L];omega) fun r hr=>?_
 obtain⟨x,hx,rfl⟩:=g1n hr
 have h1:=g1P hx
 have h2:=e1j hx
 have h3:=(ih (cnts l) hc).dec x (by omega) (ht x hx) (by omega)
 obtain⟨xk,xo,xn,xp,xa,xb,xc,xd,xe,rfl,_⟩:=n1d (ht x hx)
 exact⟨xk,xo,xn,avss xp,avss xa,avss xb,avss xc,avss xd,avss xe,rfl,h3⟩
theorem d2m {N:Nat} (ih:∀M,M<N→CkAll M) {l:List Row} (hc:cnts l<N) (ht:∀r∈l,Has Pg c1u r) (hb:c1f l<c1h):
  ∃er,er≠4∧evp a1x [.slice 9 (avss l) .no,.func (.func b1s) [] []] .none []=some ⟨oc er,.none,[]⟩:=by
 have hl:=e1k fun r hr=>d2u (ht r hr)
 refine w1I (by rw[b1L];omega) fun r hr=>?_
 obtain⟨x,hx,rfl⟩:=g1n hr
 have h1:=g1P hx
 have h2:=e1j hx
 have h3:=(ih (cnts l) hc).exp_1 x (by omega) (ht x hx) (by omega)
 obtain⟨xk,xo,xn,xp,xa,xb,xc,xd,xe,rfl,_⟩:=n1d (ht x hx)
 exact⟨xk,xo,xn,avss xp,avss xa,avss xb,avss xc,avss xd,avss xe,rfl,h3⟩
theorem i2a {N:Nat} (ih:∀M,M<N→CkAll M) {l:List Row} (hc:cnts l<N) (ht:∀r∈l,Has Pg e1g r) (hb:c1f l<c1h):
  ∃er,er≠4∧evp a1P [.slice 5 (avss l) .no,.func (.func b1t) [] []] .none []=some ⟨oc er,.none,[]⟩:=by
 have hl:=e1k fun r hr=>g2D (ht r hr)
 refine d2k (by rw[b1L];omega) fun r hr=>?_
 obtain⟨x,hx,rfl⟩:=g1n hr
 have h1:=g1P hx
 have h2:=e1j hx
 have h3:=(ih (cnts l) hc).mod x (by omega) (ht x hx) (by omega)
 obtain⟨xk,xp,xa,xb,xc,rfl,_⟩:=s1X (ht x hx)
 exact⟨xk,avss xp,avss xa,avss xb,avss xc,rfl,h3⟩
theorem d2n {N:Nat} (ih:∀M,M<N→CkAll M) {l:List Row} (hc:cnts l<N) (ht:∀r∈l,Has Pg d1o r) (hb:c1f l<c1h):
  ∃er,er≠4∧evp a1w [.slice 5 (avss l) .no,.func (.func a1Y) [] []] .none []=some ⟨oc er,.none,[]⟩:=by
 have hl:=e1k fun r hr=>g2E (ht r hr)
 refine d2l (by rw[b1L];omega) fun r hr=>?_
 obtain⟨x,hx,rfl⟩:=g1n hr
 have h1:=g1P hx
 have h2:=e1j hx
 have h3:=(ih (cnts l) hc).sig x (by omega) (ht x hx) (by omega)
 obtain⟨xk,xp,xa,xb,xc,rfl,_⟩:=s1Y (ht x hx)
 exact⟨xk,avss xp,avss xa,avss xb,avss xc,rfl,h3⟩
theorem j2R {N:Nat} (ih:∀M,M<N→CkAll M) {l:List Row} (hc:cnts l<N) (ht:∀r∈l,Has Pg d1G r) (hb:c1f l<c1h):
  ∃er,er≠4∧evp a1K [.slice 6 (avss l) .no,.func (.func b1F) [] []] .none []=some ⟨oc er,.none,[]⟩:=by
 have hl:=e1k fun r hr=>d2v (ht r hr)
 refine w1J (by rw[b1L];omega) fun r hr=>?_
 obtain⟨x,hx,rfl⟩:=g1n hr
 have h1:=g1P hx
 have h2:=e1j hx
 have h3:=(ih (cnts l) hc).spec x (by omega) (ht x hx) (by omega)
 obtain⟨xk,xo,xn,xa,xb,xc,rfl,_⟩:=o1v (ht x hx)
 exact⟨xk,xo,xn,avss xa,avss xb,avss xc,rfl,h3⟩
theorem k_ty {N:Nat} (ih:∀M,M<N→CkAll M):CkOk a1F c1e N:=by
 intro r hN ht hb
 obtain⟨xk,xn,xp,xa,rfl,t_p,t_a⟩:=v1n ht
 rw[q1k] at hN
 simp only[oneR] at hN
 simp only[d1g,CT.bulk] at hb
 exact a_Ty (by omega) (l1p t_p (by omega)) (j1r t_p (by omega)) (l_ty ih (by omega) t_a (by omega))
theorem k_pat {N:Nat} (ih:∀M,M<N→CkAll M):CkOk b1n c1A N:=by
 intro r hN ht hb
 obtain⟨xk,xn,xp,xm,xa,rfl,t_p,t_a⟩:=s1V ht
 rw[s1N] at hN
 simp only[oneR] at hN
 simp only[d1g,CT.bulk] at hb
 exact a_Pat (by omega) (l1p t_p (by omega)) (j1r t_p (by omega)) (j2P ih (by omega) t_a (by omega))
theorem k_exp {N:Nat} (ih:∀M,M<N→CkAll M):CkOk b1c c1z N:=by
 intro r hN ht hb
 obtain⟨xk,xo,xm,xp,xa,xb,xc,xd,rfl,t_p,t_a,t_b,t_c,t_d⟩:=q1o ht
 rw[k1C] at hN
 simp only[oneR] at hN
 simp only[d1g,CT.bulk] at hb
 exact a_Exp (l1p t_p (by omega)) (j1r t_p (by omega)) (j2P ih (by omega) t_a (by omega)) (h2Y ih (by omega) t_b (by omega)) (j2Q ih (by omega) t_c (by omega)) (d2m ih (by omega) t_c (by omega)) (l_ty ih (by omega) t_d (by omega))
theorem k_con {N:Nat} (ih:∀M,M<N→CkAll M):CkOk b1y e1f N:=by
 intro r hN ht hb
 obtain⟨xn,xa,rfl,t_a⟩:=s1W ht
 rw[s1O] at hN
 simp only[oneR] at hN
 simp only[d1g,CT.bulk] at hb
 exact a_Con (by omega) (l_ty ih (by omega) t_a (by omega))
theorem k_dec {N:Nat} (ih:∀M,M<N→CkAll M):CkOk b1x c1u N:=by
 intro r hN ht hb
 obtain⟨xk,xo,xn,xp,xa,xb,xc,xd,xe,rfl,t_p,t_a,t_b,t_c,t_d,t_e⟩:=n1d ht
 rw[m1n] at hN
 simp only[oneR] at hN
 simp only[d1g,CT.bulk] at hb
 exact a_Dec (by omega) (l1p t_p (by omega)) (j1r t_p (by omega)) (l_ty ih (by omega) t_a (by omega)) (h2Y ih (by omega) t_b (by omega)) (h2Z ih (by omega) t_c (by omega)) (i2a ih (by omega) t_d (by omega)) (d2n ih (by omega) t_e (by omega))
theorem i2b {N:Nat} (ih:∀M,M<N→CkAll M):CkOk b1s c1u N:=by
 intro r hN ht hb
 obtain⟨xk,xo,xn,xp,xa,xb,xc,xd,xe,rfl,t_p,t_a,t_b,t_c,t_d,t_e⟩:=n1d ht
 rw[m1n] at hN
 simp only[oneR] at hN
 simp only[d1g,CT.bulk] at hb
 exact j2O (by omega) (l1p t_p (by omega)) (j1r t_p (by omega)) (l_ty ih (by omega) t_a (by omega)) (h2Y ih (by omega) t_b (by omega)) (h2Z ih (by omega) t_c (by omega)) (i2a ih (by omega) t_d (by omega)) (d2n ih (by omega) t_e (by omega))
theorem k_mod {N:Nat} (ih:∀M,M<N→CkAll M):CkOk b1t e1g N:=by
 intro r hN ht hb
 obtain⟨xk,xp,xa,xb,xc,rfl,t_p,t_a,t_b,t_c⟩:=s1X ht
 rw[s1P] at hN
 simp only[oneR] at hN
 simp only[d1g,CT.bulk] at hb
 exact a_Mod (l1p t_p (by omega)) (j1r t_p (by omega)) (j2Q ih (by omega) t_a (by omega)) (d2m ih (by omega) t_a (by omega)) (i2a ih (by omega) t_b (by omega)) (d2n ih (by omega) t_c (by omega))
theorem k_sig {N:Nat} (ih:∀M,M<N→CkAll M):CkOk a1Y d1o N:=by
 intro r hN ht hb
 obtain⟨xk,xp,xa,xb,xc,rfl,t_p,t_a,t_b,t_c⟩:=s1Y ht
 rw[s1Q] at hN
 simp only[oneR] at hN
 simp only[d1g,CT.bulk] at hb
 exact a_Sig (l1p t_p (by omega)) (j1r t_p (by omega)) (j2R ih (by omega) t_a (by omega)) (d2n ih (by omega) t_b (by omega)) (l_ty ih (by omega) t_c (by omega))
theorem j2S {N:Nat} (ih:∀M,M<N→CkAll M):CkOk b1F d1G N:=by
 intro r hN ht hb
 obtain⟨xk,xo,xn,xa,xb,xc,rfl,t_a,t_b,t_c⟩:=o1v ht
 rw[q1l] at hN
 simp only[oneR] at hN
 simp only[d1g,CT.bulk] at hb
 exact j2N (by omega) (l_ty ih (by omega) t_a (by omega)) (h2Z ih (by omega) t_b (by omega)) (d2n ih (by omega) t_c (by omega))
theorem g2A:∀N,CkAll N:=by
 intro N
 induction N using Nat.strongRecOn with
 |_ N ih=>exact⟨k_ty ih,k_pat ih,k_exp ih,k_con ih,k_dec ih,i2b ih,k_mod ih,k_sig ih,j2S ih⟩
end Go.Proofs.Ck
end

section
/- the walkers, of a list that was just made -/
open Go Go.Eng
namespace Go.Proofs.Ck
set_option linter.unusedVariables false
set_option linter.unusedSimpArgs false
set_option maxRecDepth 100000
@[irreducible] noncomputable def x1Z (rows:List (List AV)) (n d m:Int):KT:=kt0 a1M [.ptr 0 0,.slice 4 rows .full] [[vI n,vI d,vI m]]
theorem z1N (rows:List
 (List AV)) (n:Int) (d:Int) (m:Int) (n':Int) (d':Int) (m':Int) (i:Nat):KT.round Pg cfg0 rs0 kc0 (x1Z rows n d m) {tmps:=tm2 16 [(1,AV.func (Fn.func c1C) [] [AV.ref [AV.ptr 0 0]]),(6,AV.slice 4 rows Own.full),(7,vI (↑rows.length:Int)),(8,vI (↑i:Int))],lh:=lm2 16 [],g:={H:=[[vI n',vI d',vI m']],defers:=[],rm:=RM.none,base:=1}}=
 (.branch (decide ((↑i:Int)<(↑rows.length:Int)))
 (.exI fun i1=>
 (.exS fun s=>
 (.exR fun l=>
 (.exR fun l1=>
 (.row (rows) ((↑i:Int)) [(vI (i1)),(vS (s)),(.slice 1 (l) .no),(.slice 4 (l1) .no)]
 (.exI fun i2=>
 (.exI fun i3=>
 (.exI fun i4=>
 (.call a1M [(.ptr 0 0),(.slice 4 (l1) .no)] .none [[(vI (IntKind.i64.wrap (n'+1))),(vI (IntKind.i64.wrap (d'+1))),(vI (if IntKind.i64.wrap (d'+1)>m' then IntKind.i64.wrap (d'+1) else m'))]] ⟨(.ret (.ptr 0 0)),.none,[[(vI (i2)),(vI (i3)),(vI (i4))]]⟩
 (.need true
 (.need true
 (.need true
 (.done ⟨tm2 16 [(1,(.func (.func c1C) [] [(.ref [(.ptr 0 0)])])),(6,(.slice 4 (rows) .full)),(7,(vI ((↑rows.length:Int)))),(8,(vI (IntKind.i64.wrap ((↑i:Int)+1))))],lm2 16 [],⟨[[(vI (i2)),(vI (IntKind.i64.wrap (i3-1))),(vI (i4))]],[],.none,1⟩⟩)))))))))))))
 (.out (.need true
 (.need true
 (.ret ⟨(.ret (.ptr 0 0)),.none,[[(vI (n')),(vI (d')),(vI (m'))]]⟩))))):=by kernel_rfl
theorem d2o {rows:List (List AV)} {n d m:Int} {r:CRes} (h:(x1Z rows n d m).wp Pg cfg0 evp [] (fun x=>x=r)):evp a1M [.ptr 0 0,.slice 4 rows .full] .none [[vI n,vI d,vI m]]=some r:=by
 delta x1Z at h
 exact k1P h
theorem d2p {N:Nat} (ih:∀M,M<N→WAll M):WOk a1M (fun l=>[.ptr 0 0,.slice 4 (avss l) .full]) (.ptr 0 0) c1e N:=by
 intro l hl ht n d m hn hd
 unfold BIG at hn hd
 refine d2o ?_
 refine q1S (t:=x1Z (avss l) n d m) (fun i:Nat=>⟨tm2 16 [(1,(.func (.func c1C) [] [(.ref [(.ptr 0 0)])])),(6,(.slice 4 (avss l) .full)),(7,(vI (avss l).length)),(8,(vI i))],lm2 16 [],⟨[[vI (n+cnts (l.take i):Nat),vI d,vI (wms m d (l.take i):Nat)]],[],.none,1⟩⟩) (fun i=>i≤l.length) (fun i=>l.length-i) 0 (by kernel_rfl) (Nat.zero_le _) ?_
 intro i hi
 refine a1j (z1N (avss l) n d m (n+cnts (l.take i):Nat) d (wms m d (l.take i):Nat) i) ?_
 rw[b1L]
 refine a1d (fun h=>?_) (fun h=>?_)
 ·have h:=of_decide_eq_true h
  obtain⟨r,hr⟩:∃r,l[i]? =some r:=⟨_,List.getElem?_eq_getElem (by omega:i<l.length)⟩
  have hl2:=(List.getElem?_eq_some_iff.1 hr).1
  obtain⟨xk,xn,xp,xa,rfl,t_xp,t_xa⟩:=v1n (ht r (List.mem_of_getElem? hr))
  have e0:=i1n hr
  rw[q1k] at e0
  simp only[oneR] at e0
  have en:n+cnts (l.take (i+1))=n+cnts (l.take i)+1+cnts xa:=by rw[e1v hr,q1k];simp only[oneR];omega
  have em:=g1l (m:=m) (d:=d) hr
  rw[g2z] at em
  rw[a1Z (x:=n+cnts (l.take i)) (by omega),a1Z (x:=d) (by omega),kmax,a1Z (x:=i) (by have:=g1m fun r hr=>i2h (ht r hr);omega)]
  refine⟨xk,xn,avss xp,avss xa,⟨Int.natCast_nonneg i,g1y hr⟩,?_⟩
  refine⟨_,_,_,(ih (cnts xa) (by omega)).tys xa (Nat.le_refl _) t_xa _ _ _ (by unfold BIG;omega) (by unfold BIG;omega),?_⟩
  refine⟨rfl,rfl,rfl,i+1,⟨by omega,by omega⟩,?_⟩
  rw[g1x (x:=d) (by omega),en,em]
 ·have h:=of_decide_eq_false h
  have hil:i=l.length:=by omega
  subst hil
  rw[List.take_length] at *
  exact⟨rfl,rfl,rfl⟩
@[irreducible] noncomputable def s1R (rows:List (List AV)) (n d m:Int):KT:=kt0 b1h [.ptr 0 0,.slice 8 rows .full] [[vI n,vI d,vI m]]
theorem w1K (rows:List
 (List AV)) (n:Int) (d:Int) (m:Int) (n':Int) (d':Int) (m':Int) (i:Nat):KT.round Pg cfg0 rs0 kc0 (s1R rows n d m) {tmps:=tm2 16 [(1,AV.func (Fn.func c1v) [] [AV.ref [AV.ptr 0 0]]),(6,AV.slice 8 rows Own.full),(7,vI (↑rows.length:Int)),(8,vI (↑i:Int))],lh:=lm2 16 [],g:={H:=[[vI n',vI d',vI m']],defers:=[],rm:=RM.none,base:=1}}=
 (.branch (decide ((↑i:Int)<(↑rows.length:Int)))
 (.exI fun i1=>
 (.exI fun i2=>
 (.exI fun i3=>
 (.exR fun l=>
 (.exR fun l1=>
 (.exR fun l2=>
 (.exR fun l3=>
 (.exR fun l4=>
 (.row (rows) ((↑i:Int)) [(vI (i1)),(vI (i2)),(vI (i3)),(.slice 1 (l) .no),(.slice 5 (l1) .no),(.slice 8 (l2) .no),(.slice 9 (l3) .no),(.slice 4 (l4) .no)]
 (.exI fun i4=>
 (.exI fun i5=>
 (.exI fun i6=>
 (.call b1Q [(.ptr 0 0),(.slice 5 (l1) .no)] .none [[(vI (IntKind.i64.wrap (n'+1))),(vI (IntKind.i64.wrap (d'+1))),(vI (if IntKind.i64.wrap (d'+1)>m' then IntKind.i64.wrap (d'+1) else m'))]] ⟨(.ret (.ptr 0 0)),.none,[[(vI (i4)),(vI (i5)),(vI (i6))]]⟩
 (.exI fun i7=>
 (.exI fun i8=>
 (.exI fun i9=>
 (.call b1h [(.ptr 0 0),(.slice 8 (l2) .no)] .none [[(vI (i4)),(vI (i5)),(vI (i6))]] ⟨(.ret (.ptr 0 0)),.none,[[(vI (i7)),(vI (i8)),(vI (i9))]]⟩
 (.exI fun i10=>
 (.exI fun i11=>
 (.exI fun i12=>
 (.call b1R [(.ptr 0 0),(.slice 9 (l3) .no)] .none [[(vI (i7)),(vI (i8)),(vI (i9))]] ⟨(.ret (.ptr 0 0)),.none,[[(vI (i10)),(vI (i11)),(vI (i12))]]⟩
 (.exI fun i13=>
 (.exI fun i14=>
 (.exI fun i15=>
 (.call a1M [(.ptr 0 0),(.slice 4 (l4) .no)] .none [[(vI (i10)),(vI (i11)),(vI (i12))]] ⟨(.ret (.ptr 0 0)),.none,[[(vI (i13)),(vI (i14)),(vI (i15))]]⟩
 (.need true
 (.need true
 (.need true
 (.done ⟨tm2 16 [(1,(.func (.func c1v) [] [(.ref [(.ptr 0 0)])])),(6,(.slice 8 (rows) .full)),(7,(vI ((↑rows.length:Int)))),(8,(vI (IntKind.i64.wrap ((↑i:Int)+1))))],lm2 16 [],⟨[[(vI (i13)),(vI (IntKind.i64.wrap (i14-1))),(vI (i15))]],[],.none,1⟩⟩)))))))))))))))))))))))))))))
 (.out (.need true
 (.need true
 (.ret ⟨(.ret (.ptr 0 0)),.none,[[(vI (n')),(vI (d')),(vI (m'))]]⟩))))):=by kernel_rfl
theorem z1O {rows:List (List AV)} {n d m:Int} {r:CRes} (h:(s1R rows n d m).wp Pg cfg0 evp [] (fun x=>x=r)):evp b1h [.ptr 0 0,.slice 8 rows .full] .none [[vI n,vI d,vI m]]=some r:=by
 delta s1R at h
 exact k1P h
theorem z1P {N:Nat} (ih:∀M,M<N→WAll M):WOk b1h (fun l=>[.ptr 0 0,.slice 8 (avss l) .full]) (.ptr 0 0) c1z N:=by
 intro l hl ht n d m hn hd
 unfold BIG at hn hd
 refine z1O ?_
 refine q1S (t:=s1R (avss l) n d m) (fun i:Nat=>⟨tm2 16 [(1,(.func (.func c1v) [] [(.ref [(.ptr 0 0)])])),(6,(.slice 8 (avss l) .full)),(7,(vI (avss l).length)),(8,(vI i))],lm2 16 [],⟨[[vI (n+cnts (l.take i):Nat),vI d,vI (wms m d (l.take i):Nat)]],[],.none,1⟩⟩) (fun i=>i≤l.length) (fun i=>l.length-i) 0 (by kernel_rfl) (Nat.zero_le _) ?_
 intro i hi
 refine a1j (w1K (avss l) n d m (n+cnts (l.take i):Nat) d (wms m d (l.take i):Nat) i) ?_
 rw[b1L]
 refine a1d (fun h=>?_) (fun h=>?_)
 ·have h:=of_decide_eq_true h
  obtain⟨r,hr⟩:∃r,l[i]? =some r:=⟨_,List.getElem?_eq_getElem (by omega:i<l.length)⟩
  have hl2:=(List.getElem?_eq_some_iff.1 hr).1
  obtain⟨xk,xo,xm,xp,xa,xb,xc,xd,rfl,t_xp,t_xa,t_xb,t_xc,t_xd⟩:=q1o (ht r (List.mem_of_getElem? hr))
  have e0:=i1n hr
  rw[k1C] at e0
  simp only[oneR] at e0
  have en:n+cnts (l.take (i+1))=n+cnts (l.take i)+1+cnts xa+cnts xb+cnts xc+cnts xd:=by rw[e1v hr,k1C];simp only[oneR];omega
  have em:=g1l (m:=m) (d:=d) hr
  rw[i1o] at em
  rw[a1Z (x:=n+cnts (l.take i)) (by omega),a1Z (x:=d) (by omega),kmax,a1Z (x:=i) (by have:=g1m fun r hr=>d2t (ht r hr);omega)]
  refine⟨xk,xo,xm,avss xp,avss xa,avss xb,avss xc,avss xd,⟨Int.natCast_nonneg i,g1y hr⟩,?_⟩
  refine⟨_,_,_,(ih (cnts xa) (by omega)).pats xa (Nat.le_refl _) t_xa _ _ _ (by unfold BIG;omega) (by unfold BIG;omega),?_⟩
  refine⟨_,_,_,(ih (cnts xb) (by omega)).exps xb (Nat.le_refl _) t_xb _ _ _ (by unfold BIG;omega) (by unfold BIG;omega),?_⟩
  refine⟨_,_,_,(ih (cnts xc) (by omega)).decs xc (Nat.le_refl _) t_xc _ _ _ (by unfold BIG;omega) (by unfold BIG;omega),?_⟩
  refine⟨_,_,_,(ih (cnts xd) (by omega)).tys xd (Nat.le_refl _) t_xd _ _ _ (by unfold BIG;omega) (by unfold BIG;omega),?_⟩
  refine⟨rfl,rfl,rfl,i+1,⟨by omega,by omega⟩,?_⟩
  rw[g1x (x:=d) (by omega),en,em]
 ·have h:=of_decide_eq_false h
  have hil:i=l.length:=by omega
  subst hil
  rw[List.take_length] at *
  exact⟨rfl,rfl,rfl⟩
end Go.Proofs.Ck
end

section
/- PARSE: the program's RightTy: it answers ErrDeep just if a type is nested too deep -/
set_option linter.unusedVariables false
set_option linter.unusedSimpArgs false
set_option maxRecDepth 100000
open Go Go.Eng Go.Pa
open Go.Lx (T Tok)
namespace Go.Proofs
theorem k1E {t:TypeId} {l:Row} {ts:List TypeId} (ht:d1x Pg t=some ts) (h:HasF Pg ts l):Has Pg t l:=by
 unfold d1x at ht
 split at ht
 ·rename_i hu
  simp only[Option.some.injEq] at ht;subst ht
  exact .struct hu h
 ·cases ht
theorem m1s {t e:TypeId} {l:List Row} {sz:Nat} (hu:Pg.underlying t=some (.slice e)) (hc:Pg.cellsOf e=sz) (hl:l.length≤maxLen) (h:∀r∈l,Has Pg e r) (hn:∀r∈l,r.length=sz):Has Pg t [.rows sz l]:=by
 subst hc;exact .slice hu hl h hn
theorem q1t {s:T} (h:f1f s):Has Pg b1T [cs s]:=.str Ck.j1s (by rw[bsz];have:s.length≤4096:=h;unfold maxLen;omega)
theorem n1m {n:Int} (h:0≤n∧n<9223372036854775808):Has Pg n1c [ci n]:=.int Ck.q1m (by simp [Lit.wf,IntKind.min,IntKind.max,IntKind.bits,IntKind.signed];omega)
theorem t1t {p:List T} (h:h1i p):Has Pg y_s_string [cp p]:=m1s Ck.f1q Ck.i1a (by simp;have:=h.1;unfold maxLen;omega) (fun r hr=>by
 obtain⟨t,ht,rfl⟩:=List.mem_map.1 hr
 exact q1t (h.2 t ht)) (fun r hr=>by
 obtain⟨t,ht,rfl⟩:=List.mem_map.1 hr
 rfl)
theorem st_Ty:d1x Pg c1e=some [n1c,b1T,y_s_string,y_s_api_Ty]:=by kernel_rfl
theorem f1E:h1i []:=⟨by simp,fun w hw=>by cases hw⟩
theorem j1z:f1f []:=by unfold f1f;simp
theorem d2O (t:Ty):t.row.length=4:=by cases t<;>rfl
theorem t1u {k:Int} {n:T} {p:List T} {l:List Row} (hk:0≤k∧k<9223372036854775808) (hn:f1f n) (hp:h1i p) (hl:l.length≤2) (h:∀r∈l,Has Pg c1e r) (h4:∀r∈l,r.length=4):Has Pg c1e [ci k,cs n,cp p,.rows 4 l]:=
 k1E st_Ty (.cons (a:=[ci k]) (n1m hk) (.cons (a:=[cs n]) (q1t hn) (.cons (a:=[cp p]) (t1t hp) (.cons (a:=[.rows 4 l]) (m1s Ck.m1r Ck.c_Ty (by unfold maxLen;omega) h h4) .nil))))
theorem r1L:∀t:Ty,t.Ok→Has Pg c1e t.row
 | .var n,h=>t1u (p:=[]) (by decide) h f1E (by simp) (fun r hr=>by cases hr) (fun r hr=>by cases hr)
 | .con p,h=>t1u (n:=[]) (by decide) j1z h (by simp) (fun r hr=>by cases hr) (fun r hr=>by cases hr)
 | .fn a b,h=>t1u (n:=[]) (p:=[]) (by decide) j1z f1E (by simp) (fun r hr=>by
   simp at hr;rcases hr with rfl|rfl
   ·exact r1L a h.1
   ·exact r1L b h.2) (fun r hr=>by simp at hr;rcases hr with rfl|rfl<;>exact d2O _)
 | .pair a b,h=>t1u (n:=[]) (p:=[]) (by decide) j1z f1E (by simp) (fun r hr=>by
   simp at hr;rcases hr with rfl|rfl
   ·exact r1L a h.1
   ·exact r1L b h.2) (fun r hr=>by simp at hr;rcases hr with rfl|rfl<;>exact d2O _)
theorem n1n:∀t:Ty,Ck.cntR t.row+1=t.cnt
 | .var n=>by simp [Ty.row,Ck.cntR,Ck.cntC,Ck.cnts,Ty.cnt]
 | .con p=>by simp [Ty.row,cp,Ck.cntR,Ck.cntC,Ck.cnts,Ty.cnt]
 | .fn a b=>by
  have h1:=n1n a;have h2:=n1n b
  have e1:Ck.oneR a.row=1:=by cases a<;>rfl
  have e2:Ck.oneR b.row=1:=by cases b<;>rfl
  simp only[Ty.row,Ck.cntR,Ck.cntC,Ck.cnts,Ty.cnt,e1,e2];simp;omega
 | .pair a b=>by
  have h1:=n1n a;have h2:=n1n b
  have e1:Ck.oneR a.row=1:=by cases a<;>rfl
  have e2:Ck.oneR b.row=1:=by cases b<;>rfl
  simp only[Ty.row,Ck.cntR,Ck.cntC,Ck.cnts,Ty.cnt,e1,e2];simp;omega
theorem q1u:∀(t:Ty) (m d:Nat),Ck.wmR (max m (d+1)) (d+1) t.row=max m (d+t.dep)
 | .var n,m,d=>by simp [Ty.row,Ck.wmR,Ck.wmC,Ck.wms,Ty.dep]
 | .con p,m,d=>by simp [Ty.row,cp,Ck.wmR,Ck.wmC,Ck.wms,Ty.dep]
 | .fn a b,m,d=>by
  have h1:=q1u a (max m (d+1)) (d+1)
  have h2:=q1u b (max (max m (d+1)) (d+1+a.dep)) (d+1)
  simp only[Ty.row,Ck.wmR,Ck.wmC,Ck.wms,Ty.dep]
  simp only[if_true,ite_self]
  rw[h1,h2,if_neg (by decide)];omega
 | .pair a b,m,d=>by
  have h1:=q1u a (max m (d+1)) (d+1)
  have h2:=q1u b (max (max m (d+1)) (d+1+a.dep)) (d+1)
  simp only[Ty.row,Ck.wmR,Ck.wmC,Ck.wms,Ty.dep]
  simp only[if_true,ite_self]
  rw[h1,h2,if_neg (by decide)];omega
theorem k1p:∀{p:List T},(∀w∈p,f1f w)→c1f (p.map fun t=>[cs t])≤5000*p.length
 |[],_=>by simp [c1f]
 |t::p,h=>by
  have h1:=k1p (p:=p) fun w hw=>h w (by simp [hw])
  have h2:t.length≤4096:=h t (by simp)
  simp only[List.map_cons,c1f,d1g,CT.bulk,bsz,List.length_cons];omega
theorem n1o:∀t:Ty,t.Ok→d1g t.row≤100000*t.cnt
 | .var n,h=>by have:n.length≤4096:=h;simp [Ty.row,d1g,CT.bulk,c1f,bsz,Ty.cnt];omega
 | .con p,h=>by
  have h1:=k1p h.2
  have h2:=h.1
  simp only[Ty.row,cp,d1g,CT.bulk,c1f,bsz,Ty.cnt,List.length_nil];omega
 | .fn a b,h=>by have h1:=n1o a h.1;have h2:=n1o b h.2;simp only[Ty.row,d1g,CT.bulk,c1f,bsz,Ty.cnt,List.length_nil];omega
 | .pair a b,h=>by have h1:=n1o a h.1;have h2:=n1o b h.2;simp only[Ty.row,d1g,CT.bulk,c1f,bsz,Ty.cnt,List.length_nil];omega
theorem t1v {f:FuncId} {args:List AV} {H:Heap} {r:CRes} (h:(ktc6 f args H).wp Pg cfg0 evp [] (fun x=>x=r)):evp f args .none H=some r:=i2d h
theorem t1w (ρ:Nat→Nat) (l:Row):[AV.agg (avs l)].map (AV.ren ρ)=[AV.agg (avs l)]:=by simp [AV.ren,k1c,d1O];rw[←d1O,k1c]
theorem d2P {t:Ty} (ho:t.Ok) (hc:t.cnt<1000000):∃e:Int,evp b1W [tyV t] .none []=some ⟨.ret (vI e),.none,[]⟩∧(e=4↔100<t.dep):=by
 have hT:=r1L t ho
 have hcr:=n1n t
 have hb:=n1o t ho
 have h1R:Ck.oneR t.row=1:=by cases t<;>rfl
 have hcn:Ck.cnts [t.row]=t.cnt:=by simp only[Ck.cnts,h1R];omega
 have hw:=Ck.d2p (N:=Ck.cnts [t.row]) (fun M _=>Ck.x1X M) [t.row] (Nat.le_refl _) (fun r hr=>by simp at hr;subst hr;exact hT) 0 0 0 (by rw[hcn];unfold Ck.BIG;omega) (by rw[hcn];unfold Ck.BIG;omega)
 have hwm:Ck.wms 0 0 [t.row]=t.dep:=by simp only[Ck.wms];rw[q1u];omega
 rw[hwm] at hw
 simp only[avss] at hw
 obtain⟨er,he4,hty⟩:=(Ck.g2A (Ck.oneR t.row+Ck.cntR t.row)).ty t.row (Nat.le_refl _) hT (by unfold Ck.c1h;omega)
 have htyK:∀K:Heap,lowss K.length K=true→evp a1F [tyV t] .none K=some ⟨Ck.oc er,.none,K⟩:=fun K hK=>o1l u1K hty (t1w _ _) (by unfold Ck.oc;split<;>rfl) hK
 rw[g1s] at hw
 by_cases h:100<t.dep
 ·rw[←k1O]
  exact⟨4,t1v (a1j (n1O ..) ⟨_,_,_,hw,a1d (fun _=>⟨rfl,rfl⟩) (fun hn=>absurd (of_decide_eq_false hn) (by omega))⟩),fun _=>h,fun _=>rfl⟩
 ·have hk:=htyK [[vI (0+Ck.cnts [t.row]:Nat),vI 0,vI (t.dep:Nat)],[vI 0]] rfl
  rw[←k1O] at hk⊢
  refine⟨er,t1v (a1j (n1O ..) ⟨_,_,_,hw,a1d (fun hn=>absurd (of_decide_eq_true hn) (by omega)) (fun _=>?_)⟩),fun h4=>absurd h4 he4,fun hh=>absurd hh h⟩
  unfold Ck.oc at hk
  by_cases h0:er=0
  ·rw[if_pos h0] at hk
   subst h0
   exact .inl ⟨hk,rfl,a1d (fun h=>by cases h) (fun _=>⟨rfl,rfl⟩)⟩
  ·rw[if_neg h0] at hk
   exact .inr ⟨er,hk,rfl,a1d (fun _=>a1d (fun h=>by cases h) (fun _=>⟨rfl,rfl⟩)) (fun h=>by cases h)⟩
end Go.Proofs
end

section
/- TREES, printed by kt.py out of y3.txt -/
open Go Go.Eng
open IntKind (wrap)
namespace Go.Proofs
set_option linter.unusedVariables false
set_option maxRecDepth 100000
end Go.Proofs
end

section
/- PARSE: the document's reader: what its functions come to; Is, kind, Take, Need, name, dotted -/
set_option linter.unusedVariables false
set_option linter.unusedSimpArgs false
set_option maxRecDepth 100000
open Go Go.Eng Go.Pa
open Go.Lx (T Tok)
namespace Go.Proofs
theorem dropc {L:List Tok} {k:Nat} {t:Tok} {r:List Tok} (h:L.drop k=t::r):k<L.length∧L[k]? =some t∧L.drop (k+1)=r:=by
 have h1:k<L.length:=by
  rcases Nat.lt_or_ge k L.length with h2|h2
  ·exact h2
  ·rw[List.drop_of_length_le h2] at h;cases h
 rw[List.drop_eq_getElem_cons h1] at h
 injection h with e1 e2
 exact⟨h1,by rw[List.getElem?_eq_getElem h1,e1],e2⟩
theorem not_lt {L:List Tok} {k:Nat} {p:Prop} {t:Tok} {r:List Tok} (h:L.drop k=t::r) (hd:decide ((k:Int)<((tks L).length:Int))=false):p:=by
 have:=(dropc h).1
 have:=of_decide_eq_false hd
 simp only[tks,List.length_map] at this
 omega
section
variable {QD:List (St→Prop)} {QR:CRes→Prop}
end
end Go.Proofs
end

section
/- TREES, printed by kt.py out of y4.txt -/
open Go Go.Eng
open IntKind (wrap)
namespace Go.Proofs
set_option linter.unusedVariables false
set_option maxRecDepth 100000
end Go.Proofs
end

section
/- PARSE: the document's reader: path, Path -/
set_option linter.unusedVariables false
set_option linter.unusedSimpArgs false
set_option maxRecDepth 100000
open Go Go.Eng Go.Pa
open Go.Lx (T Tok)
namespace Go.Proofs
section
variable {QD:List (St→Prop)} {L:List Tok} {z k0:Nat}
end
end Go.Proofs
end

section
/- PARSE: the document's reader: Path; types -/
set_option linter.unusedVariables false
set_option linter.unusedSimpArgs false
set_option maxRecDepth 100000
open Go Go.Eng Go.Pa
open Go.Lx (T Tok)
namespace Go.Proofs
section
variable {QD:List (St→Prop)} {QR:CRes→Prop} {L:List Tok} {z:Nat} {g:FuncId} {args:List AV} {H:Heap}
end
end Go.Proofs
end

section
/- PARSE: the document's reader: types -/
set_option linter.unusedVariables false
set_option linter.unusedSimpArgs false
set_option maxRecDepth 100000
open Go Go.Eng Go.Pa
open Go.Lx (T Tok)
namespace Go.Proofs
end Go.Proofs
end

section
/- LEX: what the document's functions answer, part 2: next, Lex; the law LexLexes -/
open Go Go.Eng Go.Lx
namespace Go.Proofs
set_option linter.unusedVariables false
set_option linter.unusedSimpArgs false
set_option maxRecDepth 100000
end Go.Proofs
end

section
/- LEX: the document's Lex; the law LexLexes -/
open Go Go.Eng Go.Lx
namespace Go.Proofs
set_option linter.unusedVariables false
set_option linter.unusedSimpArgs false
set_option maxRecDepth 100000
end Go.Proofs
end

section
/- PARSE: what a text is asq a type: the program's and the document's answer -/
set_option linter.unusedVariables false
set_option linter.unusedSimpArgs false
set_option maxRecDepth 100000
open Go Go.Eng Go.Pa
open Go.Lx (T Tok)
namespace Go.Proofs
theorem x1d {f:FuncId} {args:List AV} {H:Heap} {r:CRes} (h:(ktc7 f args H).wp Pg cfg0 evp [] (fun x=>x=r)):evp f args .none H=some r:=d2r h
def tyW (s:ByteArray):Except (Nat×Nat) Ty:=
 match lexA s with
 | .error x=>.error x
 | .ok ts=>match whole s.size (pTy s.size (8*ts.length+7) ts) with
  | .error x=>.error x
  | .ok t=>if 100<t.dep then .error (0,4) else .ok t
def a2E:Except (Nat×Nat) Ty→AV
 | .error (p,e)=>.tuple [ty0,vI p,vI e]
 | .ok t=>.tuple [tyV t,vI 0,vI 0]
theorem g2N {l:List Tok} {z e p d:Int} {n:Nat}:lowss n [hp5 (tks l) z e p d]=true:=by
 simp only[lowss,lows,AV.low,Bool.and_true,b1d,Bool.true_and];rfl
theorem a2F {t:Ty} (ho:t.Ok) (hc:t.cnt<1000000) {K:Heap} (hk:lowss K.length K=true):∃e:Int,evp b1W [tyV t] .none K=some ⟨.ret (vI e),.none,K⟩∧(e=4↔100<t.dep):=by
 obtain⟨e,h,h4⟩:=d2P ho hc
 exact⟨e,o1l u1K h (t1w _ _) rfl hk,h4⟩
theorem d2Q {s:ByteArray} {ts:List Tok} (h:lexA s=.ok ts) {t:Ty} {l:List Tok} (hF:pTy s.size (8*ts.length+7) ts=.ok t l):t.Ok∧t.cnt<1000000:=by
 obtain⟨h1,h2,h3,h4⟩:=k1D h
 obtain⟨q1,q2,q3⟩:=(wtT s.size (8*ts.length+7)).ty h3 t l hF
 exact⟨q1,by omega⟩
theorem c_Ty (s:ByteArray):evp c1j [vS s] .none []=some ⟨.ret (a2E (tyW s)),.none,[]⟩:=by
 refine x1d (a1j (X_Ty_eq ..) (e2f (fun ts hts=>?_) (fun p e he=>?_)))
 ·obtain⟨hs,hg,h4,hl⟩:=k1D hts
  refine a1d nf (fun _=>⟨rfl,a1d nf fun _=>?_⟩)
  obtain⟨r,c,hr⟩:=(u1P s.size (8*ts.length+7)).Ty (l:=ts) (d:=0) hg (by omega) (by unfold BIG;omega)
  cases hF:pTy s.size (8*ts.length+7) ts with
  |ok t l=>
   rw[hF] at hr
   obtain⟨hgl,rfl⟩:=hr
   obtain⟨ho,hc⟩:=d2Q hts hF
   obtain⟨e,cR,he4⟩:=a2F ho hc (K:=[hp5 (tks l) s.size 0 0 0]) g2N
   rw[←k1O] at cR c
   refine .inl ⟨_,_,_,_,_,_,_,_,_,c,a1d nf fun _=>a1d nf fun _=>?_⟩
   cases l with
   |cons u l=>
    refine a1d (fun _=>⟨_,_,_,_,⟨Int.le_refl _,rfl⟩,rfl,a1d (fun _=>⟨rfl,rfl,rfl,rfl,?_⟩) (fun h=>absurd h (by decide))⟩) (fun h=>absurd (of_decide_eq_false h) (by simp))
    simp only[tyW,hts,hF,whole,a2E];rfl
   |nil=>
    refine a1d (fun h=>absurd (of_decide_eq_true h) (by simp)) (fun _=>⟨rfl,a1d nf fun _=>⟨_,cR,a1d (fun h=>⟨rfl,rfl,rfl,rfl,?_⟩) (fun h=>⟨(r1A 0 t).1,(r1A 0 t).2,(r1A 0 t).1,(r1A 0 t).2,?_⟩)⟩⟩)
    ·simp only[tyW,hts,hF,whole,if_pos (he4.1 (eq_of_beq h)),a2E];rfl
    ·rw[beq_eq_false_iff_ne] at h
     simp only[tyW,hts,hF,whole,if_neg (fun hd=>h (he4.2 hd)),a2E,←k1O];rfl
  |no e p=>
   rw[hF] at hr
   obtain⟨he,l,rfl⟩:=hr
   rw[if_pos rfl] at c
   refine .inl ⟨_,_,_,_,_,_,_,_,_,c,a1d nf fun _=>a1d (fun _=>⟨rfl,a1d (fun _=>⟨rfl,rfl,rfl,rfl,?_⟩) (fun h=>by rw[ne0 he] at h;cases h)⟩) (fun h=>by rw[ne0 he] at h;cases h)⟩
   simp only[tyW,hts,hF,whole,a2E];rfl
 ·have hne:=(t1A he).1
  refine a1d (fun _=>⟨rfl,a1d (fun _=>⟨rfl,rfl,rfl,rfl,?_⟩) (fun h=>by rw[ne0 hne] at h;cases h)⟩) (fun h=>by rw[ne0 hne] at h;cases h)
  simp only[tyW,he,a2E];rfl
end Go.Proofs
end

section
/- PARSE, plain: how many nodes patterns have, how deep they are; their names are short -/
set_option linter.unusedVariables false
set_option linter.unusedSimpArgs false
namespace Go.Pa
open Go.Lx (T Tok)
def Pat.cnt:Pat→Nat
 | .pair a b=>a.cnt+b.cnt+1
 | .conA _ a=>a.cnt+1
 |_=>1
def Pat.dep:Pat→Nat
 | .pair a b=>max a.dep b.dep+1
 | .conA _ a=>a.dep+1
 |_=>1
def Pat.Ok:Pat→Prop
 | .var n=>f1f n
 | .int v=>0≤v∧v<9223372036854775808
 | .con p=>h1i p
 | .conA p a=>h1i p∧a.Ok
 | .pair a b=>a.Ok∧b.Ok
 |_=>True
structure WtP (z n:Nat):Prop where
 pat:∀{l},tok4 l→Wt Pat.Ok Pat.cnt l.length (pPat z n l)
 ap:∀{l},tok4 l→Wt Pat.Ok Pat.cnt l.length (pAp z n l)
theorem wtP (z:Nat):∀n,WtP z n:=by
 intro n
 induction n with
 |zero=>exact⟨fun _=>(by rw[pPat];exact Wt.no),fun _=>(by rw[pAp];exact Wt.no)⟩
 |succ n ih=>
  constructor
  ·intro l h
   rw[pPat]
   refine Wt.ite (fun _=>Wt.bind (Wt.path _ (Nat.le_refl _) h (fun w hw=>by cases hw)) fun x r k1 k2 k3=>Wt.ite (fun _=>Wt.bind (ih.ap k3) fun a r' j1 j2 j3=>Wt.ok ⟨k1,j1⟩ (by simp only[Pat.cnt];omega) j3) (fun _=>Wt.ok k1 k2 k3)) (fun _=>ih.ap h)
  ·intro l h
   have hl:∀{w:T},isW w l=true→1+l.tail.length≤l.length:=fun hw=>by have:=b1k hw;omega
   have hk:∀{k:Nat},ofK k l=true→1+l.tail.length≤l.length:=fun hw=>by have:=p1y hw;omega
   rw[pAp]
   refine Wt.ite (fun hw=>Wt.ok trivial (hl hw) h.tail) fun _=>Wt.ite (fun hw=>Wt.ok trivial (hl hw) h.tail) fun _=>Wt.ite (fun hw=>Wt.ok trivial (hl hw) h.tail) fun _=>Wt.ite (fun hw=>Wt.ok ?_ (hk hw) h.tail) fun _=>Wt.ite (fun hw=>Wt.ok ?_ (hk hw) h.tail) fun _=>Wt.ite (fun hw=>?_) fun _=>?_
   ·cases l with
    |nil=>cases hw
    |cons t l=>
     have:=h.headN
     show 0≤t.n∧t.n<9223372036854775808
     omega
   ·cases l with
    |nil=>cases hw
    |cons t l=>exact h.head
   ·exact Wt.bind (Wt.path _ (Nat.le_refl _) h (fun w hw=>by cases hw)) fun x r k1 k2 k3=>Wt.ok k1 k2 k3
   ·refine Wt.bind (Wt.need h) fun _ l j1 j2 j3=>Wt.ite (fun hw=>Wt.ok trivial (by have:=b1k hw;simp only[Pat.cnt];omega) j3.tail) fun _=>Wt.bind (ih.pat j3) fun p r k1 k2 k3=>Wt.ite (fun hw=>?_) (fun _=>Wt.bind (Wt.need k3) fun _ r' i1 i2 i3=>Wt.ok k1 (by omega) i3)
    have:=b1k hw
    exact Wt.bind (ih.pat k3.tail) fun q r2 q1 q2 q3=>Wt.bind (Wt.need q3) fun _ r' i1 i2 i3=>Wt.ok ⟨k1,q1⟩ (by simp only[Pat.cnt];omega) i3
theorem o1g:∀t:Pat,t.dep≤t.cnt∧1≤t.cnt
 | .pair a b=>by have h1:=o1g a;have h2:=o1g b;simp only[Pat.dep,Pat.cnt];omega
 | .conA _ a=>by have h1:=o1g a;simp only[Pat.dep,Pat.cnt];omega
 | .any=>⟨Nat.le_refl _,Nat.le_refl _⟩
 | .var _=>⟨Nat.le_refl _,Nat.le_refl _⟩
 | .int _=>⟨Nat.le_refl _,Nat.le_refl _⟩
 | .tru=>⟨Nat.le_refl _,Nat.le_refl _⟩
 | .fls=>⟨Nat.le_refl _,Nat.le_refl _⟩
 | .unit=>⟨Nat.le_refl _,Nat.le_refl _⟩
 | .con _=>⟨Nat.le_refl _,Nat.le_refl _⟩
end Go.Pa
end

section
/- TREES, printed by kt.py out of y9.txt -/
open Go Go.Eng
open IntKind (wrap)
namespace Go.Proofs
set_option linter.unusedVariables false
set_option maxRecDepth 100000
@[irreducible] noncomputable def g2y (l:List (List AV)) (z d:Int):KT:=kt5 a1H [AV.ptr 0 0] [[AV.slice 4 l Own.no,vI z,vI 0,vI 0,vI d]]
theorem c2I (l z d):kt5 a1H [AV.ptr 0 0] [[AV.slice 4 l Own.no,vI z,vI 0,vI 0,vI d]]=
 .stage (.branch false (.branch (!false) (.branch (decide (d>0)) (.out (zkL 1 l (.need true (.ret (zkQ zkF0 [zk8 l z d]))))) (.out (zkL 1 [] (zkL 1 [] (zkL 1 l (.need true (.ret (zkR (.agg (zk42 zkb2)) [zk8 l z d])))))))) (.out (zkL 1 [] (zkL 1 [] (zkL 1 l (.need true (.ret (zkR (.agg (zk42 zkb2)) [zk8 l z d])))))))) (.branch (0 !=0) (.branch (!false) (.branch (decide (d>0)) (.out (zkL 1 l (.need true (.ret (zkQ zkF0 [zk8 l z d]))))) (.out (zkL 1 [] (zkL 1 [] (zkL 1 l (.need true (.ret (zkR (.agg (zk42 zkb2)) [zk8 l z d])))))))) (.out (zkL 1 [] (zkL 1 [] (zkL 1 l (.need true (.ret (zkR (.agg (zk42 zkb2)) [zk8 l z d])))))))) (.done (zkS 37 [(1,(.func (.func b1i) [] [])),(2,(.ref [zkP])),(4,.ptr 1 0)] [] [zk8 l z d,zk30 zkb2] 1)))) ((g2y l z d).K):=by kernel_rfl
theorem w1D (l z d):(g2y l z d).K (zkS 37 [(1,(.func (.func b1i) [] [])),(2,(.ref [zkP])),(4,.ptr 1 0)] [] [zk8 l z d,zk30 zkb2] 1)=
 .alt (.exI fun i=>.exS fun s=>.exR fun l1=>.exI fun i1=>zkR2 fun l2 l3=>zkI5 fun i2 i3 i4 i5 i6=>.exS fun s1=>.exR fun l4=>.exI fun i7=>.exR fun l5=>.call b1i [zkP] .none [zk8 l z (wrap .i64 (d+1)),zk30 zkb2] (zkR (.agg (zk13 i s l1 i1 l2)) [zk1 l3 i2 i3 i4 i5,[vI i6,vS s1,.slice 0 l4 .full,vI i7,.slice 0 l5 .full]]) (.branch true (zkL 1 l1 (zkL 1 l2 (zkL 1 l3 (.need true (.ret (zkR (.agg (zk13 i s l1 i1 l2)) [zk1 l3 i2 i3 i4 (wrap .i64 (i5-1))])))))) (.branch false (.branch (decide (wrap .i64 (i5-1)>0)) (zkL 1 l3 (.need true (.ret (zkQ zkF0 [zk1 l3 i2 i3 i4 (wrap .i64 (i5-1))])))) (zkL 1 [] (zkL 1 [] (zkL 1 l3 (.need true (.ret (zkR (.agg (zk42 zkb2)) [zk1 l3 i2 i3 i4 (wrap .i64 (i5-1))]))))))) .fail))) (.exR fun l1=>zkI5 fun i i1 i2 i3 i4=>.exS fun s=>.exR fun l2=>.exI fun i5=>.exR fun l3=>.call b1i [zkP] .none [zk8 l z (wrap .i64 (d+1)),zk30 zkb2] (zkQ zkF0 [zk1 l1 i i1 i2 i3,[vI i4,vS s,.slice 0 l2 .full,vI i5,.slice 0 l3 .full]]) (.branch false (zkL 1 l2 (zkL 1 l3 (zkL 1 l1 (.need true (.ret (zkR (.agg [vI i4,vS s,(a1D Pg (y_s_string:TypeId) (AV.slice 0 l2 Own.full).dis.dis.dis),vI i5,(a1D Pg (y_s_api_Pat:TypeId) (AV.slice 0 l3 Own.full).dis.dis.dis)]) [zk1 l1 i i1 i2 (wrap .i64 (i3-1))])))))) (.branch true (.branch (decide (wrap .i64 (i3-1)>0)) (zkL 1 l1 (.need true (.ret (zkQ zkF0 [zk1 l1 i i1 i2 (wrap .i64 (i3-1))])))) (zkL 1 [] (zkL 1 [] (zkL 1 l1 (.need true (.ret (zkR (.agg (zk42 zkb2)) [zk1 l1 i i1 i2 (wrap .i64 (i3-1))]))))))) (zkL 1 l1 (.need true (.ret (zkQ zkF0 [zk1 l1 i i1 i2 (wrap .i64 (i3-1))]))))))):=by kernel_rfl
theorem c2J (l z d):kt5 b1i [AV.ptr 0 0] [[AV.slice 4 l Own.no,vI z,vI 0,vI 0,vI d]]=
 zk5 a1l [zkP,vI 2] [zk8 l z d] (fun b=>.branch (!b) (zk62 b1A [zkP] [zk8 l z d] (fun i s l1 i1 l2 l3 i2 i3 i4 i5=>.need true (.ret (zkR (.agg (zk13 i s l1 i1 l2)) [zk1 l3 i2 i3 i4 i5]))) (fun l1 i i1 i2 i3=>.need true (.ret (zkQ zkF0 [zk1 l1 i i1 i2 i3])))) (e2Q a1C zk98 [zk8 l z d] (fun l1 b1 l2 i i1 i2 i3=>zk5 c1d [zkP] [zk1 l2 i i1 i2 i3] (fun b2=>.branch b2 (zk62 b1A [zkP] [zk1 l2 i i1 i2 i3] (fun i4 s l3 i5 l4 l5 i6 i7 i8 i9=>.need true (.ret (zkR (.agg [vI 8,vS zkb2,zkN 1 l1,vI 0,zkN 5 [zk13 i4 s l3 i5 l4]]) [zk1 l5 i6 i7 i8 i9]))) (fun l3 i4 i5 i6 i7=>.need true (.ret (zkQ zkF0 [zk1 l3 i4 i5 i6 i7])))) (.need true (.ret (zkR (.agg [vI 8,vS zkb2,zkN 1 l1,vI 0,zkN 5 []]) [zk1 l2 i i1 i2 i3]))))) (fun l1 i i1 i2 i3=>.need true (.ret (zkQ zkF0 [zk1 l1 i i1 i2 i3]))))):=by kernel_rfl
theorem v1i (l z d):kt5 c1d [AV.ptr 0 0] [[AV.slice 4 l Own.no,vI z,vI 0,vI 0,vI d]]=
 zk5 a1l [zkP,vI 1] [zk8 l z d] (fun b=>.branch b (.need true (.ret (zkR (vB true) [zk8 l z d]))) (zk5 a1l [zkP,vI 2] [zk8 l z d] (fun b1=>.branch b1 (.need true (.ret (zkR (vB true) [zk8 l z d]))) (zk5 a1l [zkP,vI 4] [zk8 l z d] (fun b2=>.branch b2 (.need true (.ret (zkR (vB true) [zk8 l z d]))) (zk5 a1r [zkP,vS i2N] [zk8 l z d] (fun b3=>.branch b3 (.need true (.ret (zkR (vB true) [zk8 l z d]))) (zk5 a1r [zkP,vS z1b] [zk8 l z d] (fun b4=>.branch b4 (.need true (.ret (zkR (vB true) [zk8 l z d]))) (zk5 a1r [zkP,vS z1d] [zk8 l z d] (fun b5=>.branch b5 (.need true (.ret (zkR (vB true) [zk8 l z d]))) (zk5 a1r [zkP,vS b2S] [zk8 l z d] (fun b6=>.need true (.ret (zkR (vB b6) [zk8 l z d]))))))))))))))):=by kernel_rfl
@[irreducible] noncomputable def c2K (l:List (List AV)) (z d:Int):KT:=kt5 b1A [AV.ptr 0 0] [[AV.slice 4 l Own.no,vI z,vI 0,vI 0,vI d]]
theorem z1C (l z d):kt5 b1A [AV.ptr 0 0] [[AV.slice 4 l Own.no,vI z,vI 0,vI 0,vI d]]=
 zk20 a1g [zkP,vS i2N] [zk8 l z d] (fun b l1 i i1 i2 i3=>.branch b (.need true (.ret (zkR (.agg [vI 1,vS zkb2,zkN 1 [],vI 0,zkN 5 []]) [zk1 l1 i i1 i2 i3]))) (zk20 a1g [zkP,vS z1b] [zk1 l1 i i1 i2 i3] (fun b1 l2 i4 i5 i6 i7=>.branch b1 (.need true (.ret (zkR (.agg [vI 4,vS zkb2,zkN 1 [],vI 0,zkN 5 []]) [zk1 l2 i4 i5 i6 i7]))) (zk20 a1g [zkP,vS z1d] [zk1 l2 i4 i5 i6 i7] (fun b2 l3 i8 i9 i10 i11=>.branch b2 (.need true (.ret (zkR (.agg [vI 5,vS zkb2,zkN 1 [],vI 0,zkN 5 []]) [zk1 l3 i8 i9 i10 i11]))) (zk5 a1l [zkP,vI 4] [zk1 l3 i8 i9 i10 i11] (fun b3=>.branch b3 (.exI fun i12=>.exS fun s=>zkI2 fun i13 i14=>.row l3 0 (zk9 i12 s i13 i14) (.need (decide ((l3=[]∨(fun x=>x.size) Pg.types[e1y]=4)∧(0:Int)≤1∧1≤(↑l3.length:Int)∧(↑l3.length:Int)≤(↑l3.length:Int))) (.need true (.ret (zkR (.agg [vI 3,vS zkb2,zkN 1 [],vI i13,zkN 5 []]) [zk1 (List.drop (Int.toNat 1) l3) i8 i9 i10 i11]))))) (zk5 a1l [zkP,vI 1] [zk1 l3 i8 i9 i10 i11] (fun b4=>.branch b4 (zk64 a1y [zkP,vI 1] [zk1 l3 i8 i9 i10 i11] (fun s l4 i12 i13 i14 i15=>.need true (.need true (.ret (zkR (.agg [vI 2,vS s,zkN 1 [],vI 0,zkN 5 []]) [zk1 l4 i12 i13 i14 i15])))) (fun l4 i12 i13 i14 i15=>.need true (.need true (.ret (zkQ zkF0 [zk1 l4 i12 i13 i14 i15]))))) (zk5 a1l [zkP,vI 2] [zk1 l3 i8 i9 i10 i11] (fun b5=>.branch b5 (e2Q a1C zk98 [zk1 l3 i8 i9 i10 i11] (fun l4 b6 l5 i12 i13 i14 i15=>.need true (.ret (zkR (.agg [vI 8,vS zkb2,zkN 1 l4,vI 0,zkN 5 []]) [zk1 l5 i12 i13 i14 i15]))) (fun l4 i12 i13 i14 i15=>.need true (.ret (zkQ zkF0 [zk1 l4 i12 i13 i14 i15])))) (zk31 a1f [zkP,vS b2S] [zk1 l3 i8 i9 i10 i11] (fun l4 i12 i13 i14 i15=>zk20 a1g [zkP,vS b2R] [zk1 l4 i12 i13 i14 i15] (fun b6 l5 i16 i17 i18 i19=>.branch b6 (.need true (.ret (zkR (.agg [vI 6,vS zkb2,zkN 1 [],vI 0,zkN 5 []]) [zk1 l5 i16 i17 i18 i19]))) (zk62 a1H [zkP] [zk1 l5 i16 i17 i18 i19] (fun i20 s l6 i21 l7 l8 i22 i23 i24 i25=>.stage (zk20 a1g [zkP,vS i2M] [zk1 l8 i22 i23 i24 i25] (fun b7 l9 i26 i27 i28 i29=>.branch b7 (zk62 a1H [zkP] [zk1 l9 i26 i27 i28 i29] (fun i30 s1 l10 i31 l11 l12 i32 i33 i34 i35=>.done (zkS 72 [(0,zkP),(2,.lp 2 0 0),(6,.lp 6 0 0)] [(2,0,zk30 zkb2),(6,0,[vI 7,vS zkb2,zkE,vI 0,.slice 5 [zk13 i20 s l6 i21 l7,zk13 i30 s1 l10 i31 l11] .full])] [zk1 l12 i32 i33 i34 i35] 1)) (fun l10 i30 i31 i32 i33=>.out (.need true (.ret (zkQ zkF0 [zk1 l10 i30 i31 i32 i33]))))) (.done (zkS 72 [(0,zkP),(2,.lp 2 0 0),(6,.lp 6 0 0)] [(2,0,zk30 zkb2),(6,0,zk13 i20 s l6 i21 l7)] [zk1 l9 i26 i27 i28 i29] 1)))) ((((((((((((((((((((((((((((((((((((((((((((c2K l z d).B b).R l1).I i).I i1).I i2).I i3).T.F.B b1).R l2).I i4).I i5).I i6).I i7).T.F.B b2).R l3).I i8).I i9).I i10).I i11).T.F.B b3).T.F.B b4).T.F.B b5).T.F.T.R l4).I i12).I i13).I i14).I i15).T.B b6).R l5).I i16).I i17).I i18).I i19).T.F.T.I i20).S s).R l6).I i21).R l7).R l8).I i22).I i23).I i24).I i25).T.K)) (fun l6 i20 i21 i22 i23=>.need true (.ret (zkQ zkF0 [zk1 l6 i20 i21 i22 i23])))))) (fun l4 i12 i13 i14 i15=>.need true (.ret (zkQ zkF0 [zk1 l4 i12 i13 i14 i15]))))))))))))))):=by kernel_rfl
theorem n1P (l z d) (b:Bool) (l1 i i1 i2 i3) (b1:Bool) (l2 i4 i5 i6 i7) (b2:Bool) (l3 i8 i9 i10 i11) (b3 b4 b5:Bool) (l4 i12 i13 i14 i15) (b6:Bool) (l5 i16 i17 i18 i19 i20) (s:ByteArray) (l6 i21 l7 l8 i22 i23 i24 i25 q1x0) (q1x1:ByteArray) (q1x2:Nat) (q1x3) (q1x4:Own) (q1x5 q1x6) (q1x7:Own) (q1x8 q1x9 q1x10 q1x11 q1x12):(((((((((((((((((((((((((((((((((((((((((((c2K l z d).B b).R l1).I i).I i1).I i2).I i3).T.F.B b1).R l2).I i4).I i5).I i6).I i7).T.F.B b2).R l3).I i8).I i9).I i10).I i11).T.F.B b3).T.F.B b4).T.F.B b5).T.F.T.R l4).I i12).I i13).I i14).I i15).T.B b6).R l5).I i16).I i17).I i18).I i19).T.F.T.I i20).S s).R l6).I i21).R l7).R l8).I i22).I i23).I i24).I i25).T.K (zkS 72 [(0,zkP),(2,.lp 2 0 0),(6,.lp 6 0 0)] [(2,0,zk30 zkb2),(6,0,[vI q1x0,vS q1x1,.slice q1x2 q1x3 q1x4,vI q1x5,.slice 5 q1x6 q1x7])] [zk1 q1x8 q1x9 q1x10 q1x11 q1x12] 1)=
 zk31 a1f [zkP,vS b2R] [zk1 q1x8 q1x9 q1x10 q1x11 q1x12] (fun l9 i26 i27 i28 i29=>.need true (.ret (zkR (.agg [vI q1x0,vS q1x1,(a1D Pg (y_s_string:TypeId) (AV.slice q1x2 q1x3 q1x4).dis.dis.dis),vI q1x5,(a1D Pg (y_s_api_Pat:TypeId) (AV.slice 5 q1x6 q1x7).dis.dis.dis)]) [zk1 l9 i26 i27 i28 i29]))) (fun l9 i26 i27 i28 i29=>.need true (.ret (zkQ zkF0 [zk1 l9 i26 i27 i28 i29]))):=by kernel_rfl
end Go.Proofs
end

section
/- PARSE: the program's reader: patterns -/
set_option linter.unusedVariables false
set_option linter.unusedSimpArgs false
set_option maxRecDepth 100000
open Go Go.Eng Go.Pa
open Go.Lx (T Tok)
namespace Go.Proofs
def patK:Pat→Int
 | .any=>1
 | .var _=>2
 | .int _=>3
 | .tru=>4
 | .fls=>5
 | .unit=>6
 | .pair _ _=>7
 | .con _=>8
 | .conA _ _=>8
def patN:Pat→ByteArray
 | .var n=>bs n
 |_=>bs []
def patP:Pat→List (List AV)
 | .con p=>c1o p
 | .conA p _=>c1o p
 |_=>[]
def patM:Pat→Int
 | .int v=>v
 |_=>0
def patQ:Pat→List (List AV)
 | .pair a b=>[avs a.row,avs b.row]
 | .conA _ a=>[avs a.row]
 |_=>[]
theorem g1z (p:Pat):avs p.row=[vI (patK p),vS (patN p),.slice 1 (patP p) .no,vI (patM p),.slice 5 (patQ p) .no]:=by
 cases p with
 |con p=>simp only[Pat.row,patR,avs,CT.av,cp,h1m,patK,patN,patP,patM,patQ];rfl
 |conA p a=>simp only[Pat.row,patR,avs,CT.av,cp,h1m,patK,patN,patP,patM,patQ];rfl
 |_=>rfl
abbrev patV (t:Pat):AV:=.agg (avs t.row)
theorem l1k (t:Pat): .agg [vI (patK t),vS (patN t),.slice 1 (patP t) .no,vI (patM t),.slice 5 (patQ t) .no]=patV t:=by rw[patV,g1z]
theorem c2l (n:Nat) (t:Pat):lowss n (patP t)=true∧lowss n (patQ t)=true:=by
 have:=s1e n t.row
 rw[g1z] at this
 simp only[lows,AV.low,Bool.and_eq_true] at this
 exact⟨this.2.2.1,this.2.2.2.2.1⟩
theorem f2j (ρ:Nat→Nat) (t:Pat):(patV t).ren ρ=patV t:=by
 simp only[patV,AV.ren,k1c]
abbrev pat0:AV:=.agg [vI 0,vS ⟨#[]⟩,.slice 1 [] .no,vI 0,.slice 5 [] .no]
section
variable {QD:List (St→Prop)} {QR:CRes→Prop}
variable {z d:Nat} {g:FuncId} {args:List AV} {H:Heap} {k2:List (List AV)→Int→Int→Int→Int→KT}
theorem p1I {F:Res Pat} {k1:Int→ByteArray→List (List AV)→Int→List (List AV)→List (List AV)→Int→Int→Int→Int→KT} (c:RC patV F z d g args H)
  (hok:∀t l,F=.ok t l→Gd l→(k1 (patK t) (patN t) (patP t) (patM t) (patQ t) (tks l) z 0 0 d).wp Pg cfg0 evp QD QR) (hno:∀e p l,F=.no e p→e≠0→(k2 (tks l) z e p d).wp Pg cfg0 evp QD QR):
  (KT.alt (.exI fun i=>.exS fun s=>.exR fun l1=>.exI fun i1=>.exR fun l2=>.exR fun m=>.exI fun a=>.exI fun e=>.exI fun p=>.exI fun d'=>.call g args .none H ⟨.ret (.agg [vI i,vS s,.slice 1 l1 .no,vI i1,.slice 5 l2 .no]),.none,[hp5 m a e p d']⟩ (k1 i s l1 i1 l2 m a e p d'))
   (.exR fun m=>.exI fun a=>.exI fun e=>.exI fun p=>.exI fun d'=>.call g args .none H ⟨.panic g1N,.none,[hp5 m a e p d']⟩ (k2 m a e p d'))).wp Pg cfg0 evp QD QR:=by
 obtain⟨r,h1,h2⟩:=c
 cases hF:F with
 |ok a l=>
  rw[hF] at h2
  simp only[Rq,patV,g1z] at h2
  obtain⟨hg,rfl⟩:=h2;exact .inl ⟨_,_,_,_,_,_,_,_,_,_,h1,hok a l hF hg⟩
 |no e p=>rw[hF] at h2;obtain⟨he,l,rfl⟩:=h2;exact .inr ⟨_,_,_,_,_,h1,hno e p l hF he⟩
end
section
variable {QD:List (St→Prop)} {QR:CRes→Prop}
theorem h1P {g:FuncId} {args:List AV} {H:Heap} {t f:Bool→KT} {b:Bool} (c:evp g args .none H=some ⟨.ret (vB b),.none,H⟩) (h1:b=true→(t true).wp Pg cfg0 evp QD QR) (h2:b=false→(f false).wp Pg cfg0 evp QD QR):
  (KT.exB fun b=>.call g args .none H ⟨.ret (vB b),.none,H⟩ (.branch b (t b) (f b))).wp Pg cfg0 evp QD QR:=by
 cases b with
 |true=>exact⟨true,c,fun _=>h1 rfl,fun h=>(by cases h)⟩
 |false=>exact⟨false,c,fun h=>(by cases h),fun _=>h2 rfl⟩
theorem c1c {g:FuncId} {args:List AV} {H:Heap} {l:List Tok} {z d:Nat} {w:ByteArray} {t f:Bool→List (List AV)→Int→Int→Int→Int→KT}
  (c:evp g args .none H=some ⟨.ret (vB (isW (tx w) l)),.none,rH (if isW (tx w) l then l.tail else l) z d⟩)
  (h1:isW (tx w) l=true→(t true (tks l.tail) z 0 0 d).wp Pg cfg0 evp QD QR) (h2:isW (tx w) l=false→(f false (tks l) z 0 0 d).wp Pg cfg0 evp QD QR):
  (KT.exB fun b=>.exR fun m=>.exI fun a=>.exI fun e=>.exI fun p=>.exI fun d'=>.call g args .none H ⟨.ret (vB b),.none,[hp5 m a e p d']⟩ (.branch b (t b m a e p d') (f b m a e p d'))).wp Pg cfg0 evp QD QR:=by
 cases hb:isW (tx w) l with
 |true=>rw[hb] at c;exact⟨true,_,_,_,_,_,c,fun _=>h1 hb,fun h=>(by cases h)⟩
 |false=>rw[hb] at c;exact⟨false,_,_,_,_,_,c,fun h=>(by cases h),fun _=>h2 hb⟩
end
theorem c2m (l:List Tok) (z d:Nat):evp c1d [.ptr 0 0] .none (rH l z d)=some ⟨.ret (vB (begP l)),.none,rH l z d⟩:=by
 refine x1J (a1j (v1i ..) ?_)
 refine⟨_,g1O l z d 1,a1d (fun h1=>⟨rfl,retH (congrArg vB ?_)⟩) fun h1=>⟨_,g1O l z d 2,a1d (fun h2=>⟨rfl,retH (congrArg vB ?_)⟩) fun h2=>⟨_,g1O l z d 4,a1d (fun h3=>⟨rfl,retH (congrArg vB ?_)⟩) fun h3=>⟨_,i1D l z d _,a1d (fun h4=>⟨rfl,retH (congrArg vB ?_)⟩) fun h4=>⟨_,i1D l z d _,a1d (fun h5=>⟨rfl,retH (congrArg vB ?_)⟩) fun h5=>⟨_,i1D l z d _,a1d (fun h6=>⟨rfl,retH (congrArg vB ?_)⟩) fun h6=>⟨_,i1D l z d _,⟨rfl,retH (congrArg vB ?_)⟩⟩⟩⟩⟩⟩⟩⟩
 ·simp [begP,h1]
 ·simp [begP,h2]
 ·simp [begP,h3]
 ·have h4:isW wAny l=true:=h4
  simp [begP,h4]
 ·have h5:isW l1Z l=true:=h5
  simp [begP,h5]
 ·have h6:isW h1M l=true:=h6
  simp [begP,h6]
 ·have h4:isW wAny l=false:=h4
  have h5:isW l1Z l=false:=h5
  have h6:isW h1M l=false:=h6
  simp only[begP,h1,h2,h3,h4,h5,h6,Bool.false_or]
  rfl
structure PP (z n:Nat):Prop where
 pat:∀{l:List Tok} {d:Nat},Gd l→0<d→8*l.length+2≤n→d+n<BIG→RC patV (pPat z n l) z d b1i [.ptr 0 0] (rH l z d)
 ap:∀{l:List Tok} {d:Nat},Gd l→0<d→8*l.length+1≤n→d+n<BIG→RC patV (pAp z n l) z d b1A [.ptr 0 0] (rH l z d)
theorem c2n {z d:Nat} {l:List Tok} {F:Res Pat} (hB:d<BIG) (c:RC patV F z (d+1) b1i [.ptr 0 0] (rH l z (d+1))):RM' patV pat0 F z d a1H [.ptr 0 0] (rH l z d):=by
 have h1:=w1n hB
 have h2:=w1o hB
 refine x1H (a1j (c2I ..) (a1t (a1d nf fun _=>a1d (fun h=>absurd h (by decide)) fun _=>a1e (a1j (w1D ..) ?_))))
 rw[h1]
 rcases d1B (K:=[[vI 0,vS ⟨#[]⟩,.slice 0 [] .full,vI 0,.slice 0 [] .full]]) c f1Z (fun a k=>f2j _ a) rfl with ⟨t,m,hF,hg,c⟩|⟨e,p,m,hF,he,c⟩
 ·simp only[patV,g1z] at c
  refine .inl ⟨_,_,_,_,_,_,_,_,_,_,_,_,[],_,[],c,a1d (fun _=>⟨(c2l 1 t).1,(c2l 1 t).2,b1d ..,rfl,?_⟩) tf⟩
  rw[h2];exact f2g hF hg (l1k t)
 ·refine .inr ⟨_,_,_,_,_,_,_,[],_,[],c,a1d nf fun _=>a1d (fun _=>a1d (fun h=>⟨b1d ..,rfl,?_⟩) (fun h=>⟨rfl,rfl,b1d ..,rfl,?_⟩)) tf⟩
  ·rw[h2] at h⊢;exact f2h (x1L h) hF he
  ·rw[h2] at h⊢;exact x1K (dec0 h) hF he
theorem PP.Pat {z n:Nat} (h:PP z n) {l:List Tok} {d:Nat} (hg:Gd l) (hn:8*l.length+2≤n) (hB:d+n+1<BIG):RM' patV pat0 (pPat z n l) z d a1H [.ptr 0 0] (rH l z d):=
 c2n (by omega) (h.pat hg (Nat.succ_pos d) hn (by omega))
theorem m1R (l:List (List AV)):a1D Pg (y_s_string:TypeId) (AV.slice 1 l .no).dis.dis.dis=.slice 1 l .no:=by kernel_rfl
theorem h1Q:a1D Pg (y_s_string:TypeId) (AV.slice 0 [] .full).dis.dis.dis=.slice 1 [] .no:=by kernel_rfl
theorem m1S (l:List (List AV)):a1D Pg (y_s_api_Pat:TypeId) (AV.slice 5 l .no).dis.dis.dis=.slice 5 l .no:=by kernel_rfl
theorem f2k (a b:List AV):a1D Pg (y_s_api_Pat:TypeId) (AV.slice 5 [a,b] .full).dis.dis.dis=.slice 5 [a,b] .no:=by kernel_rfl
theorem c2o (z:Nat):∀n,PP z n:=by
 intro n
 induction n with
 |zero=>exact⟨fun _ _ h=>by omega,fun _ _ h=>by omega⟩
 |succ n I=>
 constructor
 ·
  intro l d hg hd hn hB
  generalize hX:pPat z (n+1) l=X
  rw[pPat] at hX
  refine i1C (a1j (c2J ..) ⟨_,g1O l z d 2,a1d (fun h2=>?_) (fun h2=>?_)⟩)
  ·have h2':ofK 2 l=false:=by rw[Bool.not_eq_true'] at h2;exact h2
   rw[if_neg (by rw[h2'];decide)] at hX
   exact p1I (I.ap hg hd (by omega) (by omega)) (fun t r hF hg1=>⟨rfl,c1i (a:=t) (l:=r) (by rw[←hX,hF]) hg1 (l1k t)⟩) (fun e p r hF he=>⟨rfl,b1o (by rw[←hX,hF]) he⟩)
  ·have h2':ofK 2 l=true:=by rw[Bool.not_eq_false'] at h2;exact h2
   rw[if_pos h2'] at hX
   refine s1w (p1H (b:=false) (b1:=true) hg hd (by omega)) (fun x r hF hg1=>?_) (fun e p r hF he=>⟨rfl,b1o (by rw[←hX,hF];rfl) he⟩)
   rw[hF] at hX
   simp only[Res.bind] at hX
   have hl:r.length<l.length:=s1m _ (Nat.le_refl _) hF
   refine⟨_,c2m r z d,a1d (fun hb=>?_) (fun hb=>⟨rfl,c1i (a:=.con x.1) (l:=r) (by rw[←hX,if_neg (by rw[hb];decide)]) hg1 (by rw[←l1k];rfl)⟩)⟩
   rw[if_pos hb] at hX
   refine p1I (I.ap hg1 hd (by omega) (by omega)) (fun t r2 hF2 hg2=>⟨rfl,c1i (a:=.conA x.1 t) (l:=r2) (by rw[←hX,hF2]) hg2 ?_⟩) (fun e p r2 hF2 he=>⟨rfl,b1o (by rw[←hX,hF2]) he⟩)
   rw[←l1k (.conA x.1 t),show patQ (.conA x.1 t)=[avs t.row] from rfl,g1z t];rfl
 ·
  intro l d hg hd hn hB
  generalize hX:pAp z (n+1) l=X
  rw[pAp] at hX
  refine i1C (a1j (z1C ..) ?_)
  refine c1c (b1G l z d _) (fun hw=>by exact⟨rfl,c1i (a:=.any) (l:=l.tail) (by rw[←hX];exact if_pos hw) hg.tail rfl⟩) (fun hw1=>?_)
  have hw1:isW wAny l=false:=hw1
  rw[if_neg (by rw[hw1];decide)] at hX
  refine c1c (b1G l z d _) (fun hw=>by exact⟨rfl,c1i (a:=.tru) (l:=l.tail) (by rw[←hX];exact if_pos hw) hg.tail rfl⟩) (fun hw2=>?_)
  have hw2:isW l1Z l=false:=hw2
  rw[if_neg (by rw[hw2];decide)] at hX
  refine c1c (b1G l z d _) (fun hw=>by exact⟨rfl,c1i (a:=.fls) (l:=l.tail) (by rw[←hX];exact if_pos hw) hg.tail rfl⟩) (fun hw3=>?_)
  have hw3:isW h1M l=false:=hw3
  rw[if_neg (by rw[hw3];decide)] at hX
  refine h1P (g1O l z d 4) (fun h4=>?_) (fun h4=>?_)
  ·rw[if_pos h4] at hX
   cases l with
   |nil=>cases h4
   |cons t r=>exact⟨_,_,_,_,row0,cut1,rfl,c1i (a:=.int (num (t::r))) (l:=r) (by rw[←hX];rfl) hg.tail rfl⟩
  rw[if_neg (by rw[h4];decide)] at hX
  refine h1P (g1O l z d 1) (fun h5=>?_) (fun h5=>?_)
  ·rw[if_pos h5] at hX
   cases l with
   |nil=>cases h5
   |cons t r=>
    have hk:(t.kind==1)=true:=h5
    have htk:taken z 1 (t::r)=.ok t.text r:=by simp only[taken,hk,if_true]
    refine p1F (j1k (k:=1) hg hd (by omega)) (fun u r2 hF hg2=>?_) (fun e p r2 hF he=>by rw[htk] at hF;cases hF)
    rw[htk] at hF
    injection hF with e1 e2
    subst e1 e2
    exact⟨rfl,rfl,c1i (a:=.var t.text) (l:=r) (by rw[←hX];rfl) hg2 rfl⟩
  rw[if_neg (by rw[h5];decide)] at hX
  refine h1P (g1O l z d 2) (fun h6=>?_) (fun h6=>?_)
  ·rw[if_pos h6] at hX
   exact s1w (p1H (b:=false) (b1:=true) hg hd (by omega)) (fun x r hF hg1=>⟨rfl,c1i (a:=.con x.1) (l:=r) (by rw[←hX,hF];rfl) hg1 (by rw[←l1k];rfl)⟩) (fun e p r hF he=>⟨rfl,b1o (by rw[←hX,hF];rfl) he⟩)
  rw[if_neg (by rw[h6];decide)] at hX
  refine c1V (c1n hg hd (by omega)) (fun u r hF hg1=>?_) (fun e p r hF he=>⟨rfl,b1o (by have hF':need z wOpen l=.no e p:=hF;rw[←hX,hF'];rfl) he⟩)
  have hF':need z wOpen l=.ok u r:=hF
  have hl:=c1H hF'
  rw[hF'] at hX
  simp only[Res.bind] at hX
  refine c1c (b1G r z d _) (fun hw=>by exact⟨rfl,c1i (a:=.unit) (l:=r.tail) (by rw[←hX];exact if_pos hw) hg1.tail rfl⟩) (fun hw4=>?_)
  have hw4:isW wClose r=false:=hw4
  rw[if_neg (by rw[hw4];decide)] at hX
  refine p1I (c1Y hd (I.Pat hg1 (by omega) (by omega))) (fun p r1 hF1 hg2=>a1t ?_) (fun e p r1 hF1 he=>⟨rfl,b1o (by rw[←hX,hF1]) he⟩)
  rw[hF1] at hX
  simp only at hX
  have hl1:=(lenP z n).pat _ _ hF1
  refine c1c (b1G r1 z d _) (fun hw=>?_) (fun hw=>?_)
  ·have hw5:isW wComma r1=true:=hw
   rw[if_pos hw5] at hX
   have hl2:=b1k hw5
   refine p1I (c1Y hd (I.Pat hg2.tail (by omega) (by omega))) (fun q r2 hF2 hg3=>a1e (a1j (n1P ..) ?_)) (fun e p r2 hF2 he=>a1h ⟨rfl,b1o (by rw[←hX,hF2]) he⟩)
   rw[hF2] at hX
   simp only at hX
   refine c1V (c1n hg3 hd (by omega)) (fun u2 r3 hF3 hg4=>⟨rfl,c1i (a:=.pair p q) (l:=r3) ?_ hg4 ?_⟩) (fun e p r3 hF3 he=>⟨rfl,b1o ?_ he⟩)
   ·have hF3':need z wClose r2=.ok u2 r3:=hF3
    rw[←hX,hF3']
   ·rw[h1Q,f2k,←l1k (.pair p q)]
    rw[show patQ (.pair p q)=[avs p.row,avs q.row] from rfl,g1z p,g1z q];rfl
   ·have hF3':need z wClose r2=.no e p:=hF3
    rw[←hX,hF3']
  ·have hw5:isW wComma r1=false:=hw
   rw[if_neg (by rw[hw5];decide)] at hX
   refine a1e (a1j (n1P ..) (c1V (c1n hg2 hd (by omega)) (fun u2 r3 hF3 hg4=>⟨rfl,c1i (a:=p) (l:=r3) ?_ hg4 ?_⟩) (fun e p r3 hF3 he=>⟨rfl,b1o ?_ he⟩)))
   ·have hF3':need z wClose r1=.ok u2 r3:=hF3
    rw[←hX,hF3']
   ·rw[m1R,m1S,←l1k p]
   ·have hF3':need z wClose r1=.no e p:=hF3
    rw[←hX,hF3']
end Go.Proofs
end

section
/- TREES, printed by kt.py out of z12.txt -/
open Go Go.Eng
open IntKind (wrap)
namespace Go.Proofs
set_option linter.unusedVariables false
set_option maxRecDepth 100000
@[irreducible] noncomputable def j1n (p q:List (List AV)):KT:=(kt6 a1X [.slice 5 p .no,.slice 5 q .no] []).F
@[irreducible] noncomputable def l1m (p q:List (List AV)):KT:=kt6 a1X [AV.slice 5 p Own.no,AV.slice 5 q Own.no] []
theorem q1K (p q):(kt6 a1X [AV.slice 5 p Own.no,AV.slice 5 q Own.no] []).prune (PH.of 53)=
 .branch ((↑p.length:Int)!=(↑q.length:Int)) (.ret (zkR (vB false) [])) ((l1m p q).F):=by kernel_rfl
@[irreducible] noncomputable def n1C (p q:List (List AV)) (i:Nat):KT:=KT.round Pg cfg0 rs0 kc6 (j1n p q) (zkS 60 [(0,zkN 5 p),(1,zkN 5 q),(5,vI (↑i:Int))] [] [] 0)
theorem p1T (p q) (i:Nat):(KT.round Pg cfg0 rs0 kc6 (j1n p q) (zkS 60 [(0,zkN 5 p),(1,zkN 5 q),(5,vI (↑i:Int))] [] [] 0)).prune (PH.of 26445298749869)=
 .branch (decide ((↑i:Int)<(↑p.length:Int))) (.exI fun i1=>.exS fun s=>.exR fun l=>.exI fun i2=>.exR fun l1=>.row p (↑i:Int) (zk13 i1 s l i2 l1) (.exI fun i3=>.exS fun s1=>.exR fun l2=>.exI fun i4=>.exR fun l3=>.row q (↑i:Int) (zk13 i3 s1 l2 i4 l3) (.stage (.branch (i1 !=i3) (.out (.out (.ret (zkR (vB false) [])))) (.branch (!s.toList==s1.toList) (.out (.out (.ret (zkR (vB false) [])))) (.branch (i2 !=i4) (.out (.out (.ret (zkR (vB false) [])))) (zk5 a1R [zkN 1 l,zkN 1 l2] [] (fun b=>.branch (!b) (.out (.out (.ret (zkR (vB false) [])))) (.done (zkS 60 [(0,zkN 5 p),(1,zkN 5 q),(5,vI (↑i:Int)),(6,.lp 6 0 0),(7,.lp 7 0 0)] [(6,0,zk13 i1 s l i2 l1),(7,0,zk13 i3 s1 l2 i4 l3)] [] 0))))))) ((((((((((((n1C p q i).T.I i1).S s).R l).I i2).R l1).T.I i3).S s1).R l2).I i4).R l3).T.K)))) (.out (.ret (zkR (vB true) []))):=by kernel_rfl
theorem m1W (p q) (i:Nat) (i1) (s:ByteArray) (l i2 l1 i3) (s1:ByteArray) (l2 i4 l3):((((((((((((n1C p q i).T.I i1).S s).R l).I i2).R l1).T.I i3).S s1).R l2).I i4).R l3).T.K (zkS 60 [(0,zkN 5 p),(1,zkN 5 q),(5,vI (↑i:Int)),(6,.lp 6 0 0),(7,.lp 7 0 0)] [(6,0,zk13 i1 s l i2 l1),(7,0,zk13 i3 s1 l2 i4 l3)] [] 0)).prune (PH.of 53)=
 zk5 a1X [zkN 5 l1,zkN 5 l3] [] (fun b=>.branch (!b) (.out (.ret (zkR (vB false) []))) (.done (zkS 60 [(0,zkN 5 p),(1,zkN 5 q),(5,vI (wrap .i64 ((↑i:Int)+1)))] [] [] 0))):=by kernel_rfl
end Go.Proofs
end

section
/- PARSE: the document's checks, depth and sameness of patterns -/
set_option linter.unusedVariables false
set_option linter.unusedSimpArgs false
set_option maxRecDepth 100000
open Go Go.Eng Go.Pa
open Go.Lx (T Tok)
namespace Go.Proofs
abbrev i1W (l:List Pat):List (List AV):=l.map fun t=>avs t.row
def h1w:Pat→List Pat
 | .pair a b=>[a,b]
 | .conA _ a=>[a]
 |_=>[]
theorem d2R (t:Pat):patQ t=i1W (h1w t):=by cases t<;>rfl
theorem d2S {t k:Pat} (h:k∈h1w t):k.cnt<t.cnt:=by
 cases t with
 |pair a b=>simp [h1w] at h;rcases h with rfl|rfl<;>(simp only[Pat.cnt];omega)
 |conA p a=>simp [h1w] at h;subst h;simp only[Pat.cnt];omega
 |_=>simp [h1w] at h
theorem f2X {t k:Pat} (ho:t.Ok) (h:k∈h1w t):k.Ok:=by
 cases t with
 |pair a b=>simp [h1w] at h;rcases h with rfl|rfl;exact ho.1;exact ho.2
 |conA p a=>simp [h1w] at h;subst h;exact ho.2
 |_=>simp [h1w] at h
theorem d2T (t:Pat):(h1w t).length≤2:=by cases t<;>simp [h1w]
theorem d2U {l:List Pat} {i:Nat} (h:i<l.length):(0:Int)≤(i:Int)∧(i1W l)[(i:Int).toNat]? =some [vI (patK l[i]),vS (patN l[i]),.slice 1 (patP l[i]) .no,vI (patM l[i]),.slice 5 (patQ l[i]) .no]:=
 ⟨Int.natCast_nonneg i,by rw[Int.toNat_natCast,List.getElem?_map,List.getElem?_eq_getElem h,Option.map_some,g1z]⟩
theorem i2r {t:Pat} (h:t.Ok):∃p,patP t=c1o p∧h1i p:=by
 cases t with
 |con p=>exact⟨p,rfl,h⟩
 |conA p a=>exact⟨p,rfl,h.1⟩
 |_=>exact⟨[],rfl,by simp,fun w hw=>by cases hw⟩
theorem x1e {l:List Pat} {N:Nat} (ho:∀t∈l,t.Ok) (hc:∀t∈l,t.cnt≤N)
  (ih:∀M,M<N→∀l:List Pat,l.length<SM→(∀t∈l,t.Ok)→(∀t∈l,t.cnt≤M)→evp a1X [.slice 5 (i1W l) .no,.slice 5 (i1W l) .no] .none []=some ⟨.ret (vB true),.none,[]⟩) {i:Nat} (hi:i<l.length):
  evp a1X [.slice 5 (patQ l[i]) .no,.slice 5 (patQ l[i]) .no] .none []=some ⟨.ret (vB true),.none,[]⟩∧evp a1R [.slice 1 (patP l[i]) .no,.slice 1 (patP l[i]) .no] .none []=some ⟨.ret (vB true),.none,[]⟩:=by
 have hm:=List.getElem_mem hi
 have h1:=hc _ hm
 have h2:=(o1g l[i]).2
 obtain⟨p,hp1,hp2⟩:=i2r (ho _ hm)
 rw[d2R,hp1]
 refine⟨ih (N-1) (by omega) _ (by have:=d2T l[i];unfold SM;omega) (fun t ht=>f2X (ho _ hm) ht) (fun t ht=>by have:=d2S ht;omega),t1s (by have:=hp2.1;unfold SM;omega)⟩
theorem a2G:∀N (l:List Pat),l.length<SM→(∀t∈l,t.Ok)→(∀t∈l,t.cnt≤N)→evp a1X [.slice 5 (i1W l) .no,.slice 5 (i1W l) .no] .none []=some ⟨.ret (vB true),.none,[]⟩:=by
 intro N
 induction N using Nat.strongRecOn with
 |ind N ih=>
  intro l hl ho hc
  unfold SM at hl
  have hY:(l1m (i1W l) (i1W l)).F=j1n (i1W l) (i1W l):=by delta l1m j1n;rfl
  refine q1s (b1g (q1K ..) (a1d (fun h=>absurd rfl (bne_iff_ne.1 h)) (fun _=>a1j hY (z1Q (fun i:Nat=>⟨tm2 60 [(0,(.slice 5 (i1W l) .no)),(1,(.slice 5 (i1W l) .no)),(5,(vI (i)))],lm2 60 [],⟨[],[],.none,0⟩⟩) (fun i=>i≤l.length) (fun i=>l.length-i) 0 (by kernel_rfl) (Nat.zero_le _) ?_))))
  intro i hi
  refine b1g (p1T ..) (a1d (fun hlt=>?_) (fun _=>a1h rfl))
  have hlt:=of_decide_eq_true hlt
  simp only[List.length_map] at hlt
  have hi2:i<l.length:=by omega
  obtain⟨q1,q2⟩:=x1e ho hc ih hi2
  refine⟨_,_,_,_,_,d2U hi2,_,_,_,_,_,d2U hi2,a1t (a1d (fun h=>absurd rfl (bne_iff_ne.1 h)) (fun _=>a1d (fun h=>by rw[n1B] at h;simp at h) (fun _=>a1d (fun h=>absurd rfl (bne_iff_ne.1 h)) (fun _=>⟨true,q2,a1d nf (fun _=>a1e (b1g (m1W ..) ⟨true,q1,a1d nf (fun _=>?_)⟩))⟩))))⟩
  rw[a1Z (x:=i) (by omega)]
  exact a1e ⟨i+1,⟨by omega,by omega⟩,rfl⟩
end Go.Proofs
end

section
/- PARSE: the program's RightPat: it answers ErrDeep just if a pattern is nested too deep -/
set_option linter.unusedVariables false
set_option linter.unusedSimpArgs false
set_option maxRecDepth 100000
open Go Go.Eng Go.Pa
open Go.Lx (T Tok)
namespace Go.Proofs
theorem v1u {n:Int} (h:0≤n∧n<9223372036854775808):Has Pg s1S [ci n]:=.int Ck.w1L (by simp [Lit.wf,IntKind.min,IntKind.max,IntKind.bits,IntKind.signed];omega)
theorem x1f (t:Pat):t.row.length=5:=by cases t<;>rfl
theorem g1Q {k:Int} {n:T} {p:List T} {v:Int} {l:List Row} (hk:0≤k∧k<9223372036854775808) (hn:f1f n) (hp:h1i p) (hv:0≤v∧v<9223372036854775808) (hl:l.length≤2) (h:∀r∈l,Has Pg c1A r) (h5:∀r∈l,r.length=5):Has Pg c1A (patR k n p v l):=
 k1E Ck.j2W (.cons (a:=[ci k]) (n1m hk) (.cons (a:=[cs n]) (q1t hn) (.cons (a:=[cp p]) (t1t hp) (.cons (a:=[ci v]) (v1u hv) (.cons (a:=[.rows 5 l]) (m1s Ck.s1T Ck.f2D (by unfold maxLen;omega) h h5) .nil)))))
theorem t1x:∀t:Pat,t.Ok→Has Pg c1A t.row
 | .any,_=>g1Q (by decide) j1z f1E (by decide) (by simp) (fun r hr=>by cases hr) (fun r hr=>by cases hr)
 | .tru,_=>g1Q (by decide) j1z f1E (by decide) (by simp) (fun r hr=>by cases hr) (fun r hr=>by cases hr)
 | .fls,_=>g1Q (by decide) j1z f1E (by decide) (by simp) (fun r hr=>by cases hr) (fun r hr=>by cases hr)
 | .unit,_=>g1Q (by decide) j1z f1E (by decide) (by simp) (fun r hr=>by cases hr) (fun r hr=>by cases hr)
 | .var n,h=>g1Q (by decide) h f1E (by decide) (by simp) (fun r hr=>by cases hr) (fun r hr=>by cases hr)
 | .int v,h=>g1Q (by decide) j1z f1E (by have h:0≤v∧v<9223372036854775808:=h;omega) (by simp) (fun r hr=>by cases hr) (fun r hr=>by cases hr)
 | .con p,h=>g1Q (by decide) j1z h (by decide) (by simp) (fun r hr=>by cases hr) (fun r hr=>by cases hr)
 | .conA p a,h=>g1Q (by decide) j1z h.1 (by decide) (by simp) (fun r hr=>by simp at hr;subst hr;exact t1x a h.2) (fun r hr=>by simp at hr;subst hr;exact x1f _)
 | .pair a b,h=>g1Q (by decide) j1z f1E (by decide) (by simp) (fun r hr=>by
   simp at hr;rcases hr with rfl|rfl
   ·exact t1x a h.1
   ·exact t1x b h.2) (fun r hr=>by simp at hr;rcases hr with rfl|rfl<;>exact x1f _)
theorem x1g (t:Pat):Ck.oneR t.row=1:=by cases t<;>rfl
theorem o1y:∀t:Pat,Ck.cntR t.row+1=t.cnt
 | .any=>by simp [Pat.row,patR,cp,Ck.cntR,Ck.cntC,Ck.cnts,Pat.cnt]
 | .tru=>by simp [Pat.row,patR,cp,Ck.cntR,Ck.cntC,Ck.cnts,Pat.cnt]
 | .fls=>by simp [Pat.row,patR,cp,Ck.cntR,Ck.cntC,Ck.cnts,Pat.cnt]
 | .unit=>by simp [Pat.row,patR,cp,Ck.cntR,Ck.cntC,Ck.cnts,Pat.cnt]
 | .var n=>by simp [Pat.row,patR,cp,Ck.cntR,Ck.cntC,Ck.cnts,Pat.cnt]
 | .int v=>by simp [Pat.row,patR,cp,Ck.cntR,Ck.cntC,Ck.cnts,Pat.cnt]
 | .con p=>by simp [Pat.row,patR,cp,Ck.cntR,Ck.cntC,Ck.cnts,Pat.cnt]
 | .conA p a=>by
  have h1:=o1y a
  simp only[Pat.row,patR,cp,Ck.cntR,Ck.cntC,Ck.cnts,Pat.cnt,x1g];simp;omega
 | .pair a b=>by
  have h1:=o1y a;have h2:=o1y b
  simp only[Pat.row,patR,cp,Ck.cntR,Ck.cntC,Ck.cnts,Pat.cnt,x1g];simp;omega
theorem f1F {k:Int} {n:T} {p:List T} {v:Int} {l:List Row} (hn:f1f n) (hp:h1i p):d1g (patR k n p v l)≤c1f l+90000:=by
 have h1:=k1p hp.2
 have h2:=hp.1
 have h3:n.length≤4096:=hn
 simp only[patR,cp,d1g,CT.bulk,bsz];omega
theorem o1z:∀t:Pat,t.Ok→d1g t.row≤100000*t.cnt
 | .any,_=>by have h:=f1F (k:=1) (v:=0) (l:=[]) j1z f1E;simp only[c1f] at h;simp only[Pat.row,Pat.cnt];omega
 | .tru,_=>by have h:=f1F (k:=4) (v:=0) (l:=[]) j1z f1E;simp only[c1f] at h;simp only[Pat.row,Pat.cnt];omega
 | .fls,_=>by have h:=f1F (k:=5) (v:=0) (l:=[]) j1z f1E;simp only[c1f] at h;simp only[Pat.row,Pat.cnt];omega
 | .unit,_=>by have h:=f1F (k:=6) (v:=0) (l:=[]) j1z f1E;simp only[c1f] at h;simp only[Pat.row,Pat.cnt];omega
 | .var n,hn=>by have h:=f1F (k:=2) (n:=n) (v:=0) (l:=[]) hn f1E;simp only[c1f] at h;simp only[Pat.row,Pat.cnt];omega
 | .int v,_=>by have h:=f1F (k:=3) (v:=v) (l:=[]) j1z f1E;simp only[c1f] at h;simp only[Pat.row,Pat.cnt];omega
 | .con p,hp=>by have h:=f1F (k:=8) (v:=0) (l:=[]) j1z hp;simp only[c1f] at h;simp only[Pat.row,Pat.cnt];omega
 | .conA p a,hp=>by have h:=f1F (k:=8) (v:=0) (l:=[a.row]) j1z hp.1;have h1:=o1z a hp.2;simp only[c1f] at h;simp only[Pat.row,Pat.cnt];omega
 | .pair a b,hp=>by have h:=f1F (k:=7) (v:=0) (l:=[a.row,b.row]) j1z f1E;have h1:=o1z a hp.1;have h2:=o1z b hp.2;simp only[c1f] at h;simp only[Pat.row,Pat.cnt];omega
end Go.Proofs
end

section
/- PARSE, plain: how many nodes expressions have; their names are short, their numbers and places small -/
set_option linter.unusedVariables false
set_option linter.unusedSimpArgs false
namespace Go.Pa
open Go.Lx (T Tok)
def e2A:Option Ty→Prop
 |none=>True
 |some t=>t.Ok
def n1A:Option Ty→Nat
 |none=>0
 |some t=>t.cnt
mutual
def Exp.Ok:Exp→Prop
 | .int v=>v<9223372036854775808
 | .tru=>True
 | .fls=>True
 | .unit=>True
 | .var p=>h1i p
 | .con p=>h1i p
 | .fn p x=>p.Ok∧Exp.Ok x
 | .app f x=>Exp.Ok f∧Exp.Ok x
 | .pair a b=>Exp.Ok a∧Exp.Ok b
 | .lets l x=>k1M l∧Exp.Ok x
 | .ite c a b=>Exp.Ok c∧Exp.Ok a∧Exp.Ok b
 | .cases x l=>Exp.Ok x∧i1h l
 | .bin o a b=>o≤6∧Exp.Ok a∧Exp.Ok b
 | .ann x t=>Exp.Ok x∧t.Ok
def Dec.Ok:Dec→Prop
 | .val a n t x=>a<4611686018427387904∧f1f n∧e2A t∧Exp.Ok x
 | .func a n ps t x=>a<4611686018427387904∧f1f n∧(∀w∈ps,f1f w)∧e2A t∧Exp.Ok x
def k1M:List Dec→Prop
 |[]=>True
 |d::l=>Dec.Ok d∧k1M l
def i1h:List (Pat×Exp)→Prop
 |[]=>True
 |(p,x)::l=>p.Ok∧Exp.Ok x∧i1h l
end
mutual
def Exp.cnt:Exp→Nat
 | .int _=>1
 | .tru=>1
 | .fls=>1
 | .unit=>1
 | .var _=>1
 | .con _=>1
 | .fn p x=>p.cnt+Exp.cnt x+1
 | .app f x=>Exp.cnt f+Exp.cnt x
 | .pair a b=>Exp.cnt a+Exp.cnt b+1
 | .lets l x=>d1y l+Exp.cnt x+1
 | .ite c a b=>Exp.cnt c+Exp.cnt a+Exp.cnt b+1
 | .cases x l=>Exp.cnt x+c1G l+1
 | .bin o a b=>Exp.cnt a+Exp.cnt b+1
 | .ann x t=>Exp.cnt x+t.cnt+1
def Dec.cnt:Dec→Nat
 | .val _ _ t x=>n1A t+Exp.cnt x+1
 | .func _ _ ps t x=>ps.length+n1A t+Exp.cnt x+1
def d1y:List Dec→Nat
 |[]=>0
 |d::l=>Dec.cnt d+d1y l
def c1G:List (Pat×Exp)→Nat
 |[]=>0
 |(p,x)::l=>p.cnt+Exp.cnt x+c1G l
end
theorem w1d (a b:List Dec):d1y (a++b)=d1y a+d1y b:=by
 induction a with
 |nil=>simp [d1y]
 |cons d a ih=>simp only[List.cons_append,d1y,ih];omega
theorem u1z (a b:List (Pat×Exp)):c1G (a++b)=c1G a+c1G b:=by
 induction a with
 |nil=>simp [c1G]
 |cons d a ih=>obtain⟨p,x⟩:=d;simp only[List.cons_append,c1G,ih];omega
theorem y1U {a b:List Dec} (h:k1M a) (k:k1M b):k1M (a++b):=by
 induction a with
 |nil=>exact k
 |cons d a ih=>exact⟨h.1,ih h.2⟩
theorem w1e {a b:List (Pat×Exp)} (h:i1h a) (k:i1h b):i1h (a++b):=by
 induction a with
 |nil=>exact k
 |cons d a ih=>obtain⟨p,x⟩:=d;exact⟨h.1,h.2.1,ih h.2.2⟩
theorem h2a (lv:Nat) (l:List Tok):opAt lv l≤6:=by
 unfold opAt
 split<;>split<;>first|omega|(split<;>omega)
theorem pl_lt {z:Nat} (hz:z<4611686018427387904) {l:List Tok} (h:tok4 l):pl z l<4611686018427387904:=by
 cases l with
 |nil=>exact hz
 |cons t l=>exact h.headA
theorem b2L {z:Nat}:∀(k:Nat) {ps:List T} {l:List Tok},l.length≤k→tok4 l→(∀w∈ps,f1f w)→(∀w∈(params z ps l).1,f1f w)∧(params z ps l).1.length+(params z ps l).2.length=ps.length+l.length∧tok4 (params z ps l).2:=by
 intro k
 induction k with
 |zero=>intro ps l hk h hp;cases l with
  |nil=>rw[params];exact⟨hp,rfl,h⟩
  |cons t l=>simp at hk
 |succ k ih=>
  intro ps l hk h hp
  cases l with
  |nil=>rw[params];exact⟨hp,rfl,h⟩
  |cons t l=>
   rw[params]
   split
   ·obtain⟨h1,h2,h3⟩:=ih (ps:=ps++[t.text]) (l:=l) (by simp at hk;omega) h.tail (fun w hw=>by
     rw[List.mem_append,List.mem_singleton] at hw
     rcases hw with hw|rfl
     ·exact hp w hw
     ·exact h.head)
    exact⟨h1,by rw[h2];simp;omega,h3⟩
   ·exact⟨hp,rfl,h⟩
structure WtE (z n:Nat):Prop where
 exp:∀{l},tok4 l→Wt Exp.Ok Exp.cnt l.length (pExp z n l)
 bin:∀{lv l},tok4 l→Wt Exp.Ok Exp.cnt l.length (pBin z n lv l)
 ops:∀{lv x l},tok4 l→x.Ok→Wt Exp.Ok Exp.cnt (x.cnt+l.length) (pOps z n lv x l)
 app:∀{l},tok4 l→Wt Exp.Ok Exp.cnt l.length (pApp z n l)
 apps:∀{x l},tok4 l→x.Ok→Wt Exp.Ok Exp.cnt (x.cnt+l.length) (g1M z n x l)
 atom:∀{l},tok4 l→Wt Exp.Ok Exp.cnt l.length (f1r z n l)
 cases:∀{bs l},tok4 l→i1h bs→Wt i1h c1G (c1G bs+l.length) (e1t z n bs l)
 decs:∀{ds l},tok4 l→k1M ds→Wt k1M d1y (d1y ds+l.length) (i1g z n ds l)
 dec:∀{l},tok4 l→Wt Dec.Ok Dec.cnt l.length (pDec z n l)
 body:∀{l},tok4 l→Wt (fun b:Option Ty×Exp=>e2A b.1∧b.2.Ok) (fun b=>n1A b.1+b.2.cnt) l.length (h1h z n l)
theorem wtE (z:Nat) (hz:z<4611686018427387904):∀n,WtE z n:=by
 intro n
 induction n with
 |zero=>
  exact⟨fun _=>(by rw[pExp];exact Wt.no),fun _=>(by rw[pBin];exact Wt.no),fun _ _=>(by rw[pOps];exact Wt.no),fun _=>(by rw[pApp];exact Wt.no),fun _ _=>(by rw[g1M];exact Wt.no),fun _=>(by rw[f1r];exact Wt.no),
   fun _ _=>(by rw[e1t];exact Wt.no),fun _ _=>(by rw[i1g];exact Wt.no),fun _=>(by rw[pDec];exact Wt.no),fun _=>(by rw[h1h];exact Wt.no)⟩
 |succ n ih=>
  have FP:=wtP z n
  have FT:=wtT z n
  constructor
  ·
   intro l h
   rw[pExp]
   refine Wt.ite (fun hw=>?_) fun _=>Wt.ite (fun hw=>?_) fun _=>ih.bin h
   ·have:=b1k hw
    exact Wt.bind (FP.pat h.tail) fun p r k1 k2 k3=>Wt.bind (Wt.need k3) fun _ r' j1 j2 j3=>Wt.bind (ih.exp j3) fun x r2 q1 q2 q3=>Wt.ok ⟨k1,q1⟩ (by simp only[Exp.cnt];omega) q3
   ·have:=b1k hw
    exact Wt.bind (ih.exp h.tail) fun c r k1 k2 k3=>Wt.bind (Wt.need k3) fun _ r' j1 j2 j3=>Wt.bind (ih.exp j3) fun a r2 q1 q2 q3=>Wt.bind (Wt.need q3) fun _ r3 i1 i2 i3=>Wt.bind (ih.exp i3) fun b r4 o1 o2 o3=>Wt.ok ⟨k1,q1,o1⟩ (by simp only[Exp.cnt];omega) o3
  ·
   intro lv l h
   rw[pBin]
   refine Wt.ite (fun _=>ih.app h) fun _=>Wt.bind (ih.bin h) fun x r k1 k2 k3=>fun b r' e=>?_
   obtain⟨j1,j2,j3⟩:=ih.ops k3 k1 b r' e
   exact⟨j1,by omega,j3⟩
  ·
   intro lv x l h hx
   rw[pOps]
   refine Wt.ite (fun _=>Wt.ok hx (Nat.le_refl _) h) fun hw=>?_
   have:=x1B hw
   have hop:=h2a lv l
   refine Wt.bind (ih.bin h.tail) fun y r k1 k2 k3=>Wt.ite (fun _=>Wt.ok ⟨hop,hx,k1⟩ (by simp only[Exp.cnt];omega) k3) fun _=>fun b r' e=>?_
   obtain⟨j1,j2,j3⟩:=ih.ops (x:=.bin (opAt lv l) x y) k3 ⟨hop,hx,k1⟩ b r' e
   simp only[Exp.cnt] at j2
   exact⟨j1,by omega,j3⟩
  ·
   intro l h
   rw[pApp]
   refine Wt.bind (ih.atom h) fun x r k1 k2 k3=>fun b r' e=>?_
   obtain⟨j1,j2,j3⟩:=ih.apps k3 k1 b r' e
   exact⟨j1,by omega,j3⟩
  ·
   intro x l h hx
   rw[g1M]
   refine Wt.ite (fun _=>?_) fun _=>Wt.ok hx (Nat.le_refl _) h
   refine Wt.bind (ih.atom h) fun y r k1 k2 k3=>fun b r' e=>?_
   obtain⟨j1,j2,j3⟩:=ih.apps (x:=.app x y) k3 ⟨hx,k1⟩ b r' e
   simp only[Exp.cnt] at j2
   exact⟨j1,by omega,j3⟩
  ·
   intro l h
   have hl:∀{w:T},isW w l=true→1+l.tail.length≤l.length:=fun hw=>by have:=b1k hw;omega
   have hk:∀{k:Nat},ofK k l=true→1+l.tail.length≤l.length:=fun hw=>by have:=p1y hw;omega
   rw[f1r]
   refine Wt.ite (fun hw=>?_) fun _=>Wt.ite (fun hw=>?_) fun _=>Wt.ite (fun hw=>?_) fun _=>Wt.ite (fun hw=>Wt.ok trivial (hl hw) h.tail) fun _=>Wt.ite (fun hw=>Wt.ok trivial (hl hw) h.tail) fun _=>Wt.ite (fun hw=>?_) fun _=>?_
   ·cases l with
    |nil=>cases hw
    |cons t l=>exact Wt.ok h.headN (hk hw) h.tail
   ·have:=b1k hw
    refine Wt.bind (ih.decs (ds:=[]) h.tail trivial) fun ds r k1 k2 k3=>Wt.bind (Wt.need k3) fun _ r' j1 j2 j3=>Wt.bind (ih.exp j3) fun x r2 q1 q2 q3=>Wt.bind (Wt.need q3) fun _ r3 i1 i2 i3=>Wt.ok ⟨k1,q1⟩ (by simp only[Exp.cnt,d1y] at *;omega) i3
   ·have:=b1k hw
    refine Wt.bind (ih.exp h.tail) fun x r k1 k2 k3=>Wt.bind (Wt.need k3) fun _ r' j1 j2 j3=>?_
    have hb:tok4 (if isW wBar r' then r'.tail else r')∧(if isW wBar r' then r'.tail else r').length≤r'.length:=by
     split
     ·exact⟨j3.tail,h1j _⟩
     ·exact⟨j3,Nat.le_refl _⟩
    exact Wt.bind (ih.cases (bs:=[]) hb.1 trivial) fun bs r2 q1 q2 q3=>Wt.ok ⟨k1,q1⟩ (by have:=hb.2;simp only[Exp.cnt,c1G] at *;omega) q3
   ·refine Wt.bind (Wt.path _ (Nat.le_refl _) h (fun w hw=>by cases hw)) fun x r k1 k2 k3=>Wt.ok ?_ ?_ k3
    ·split
     ·exact k1
     ·exact k1
    ·split
     ·exact k2
     ·exact k2
   ·refine Wt.bind (Wt.need h) fun _ l j1 j2 j3=>Wt.ite (fun hw=>Wt.ok trivial (by have:=b1k hw;simp only[Exp.cnt];omega) j3.tail) fun _=>Wt.bind (ih.exp j3) fun p r k1 k2 k3=>Wt.ite (fun hw=>?_) fun _=>Wt.ite (fun hw=>?_) (fun _=>Wt.bind (Wt.need k3) fun _ r' i1 i2 i3=>Wt.ok k1 (by omega) i3)
    ·have:=b1k hw
     exact Wt.bind (ih.exp k3.tail) fun q r2 q1 q2 q3=>Wt.bind (Wt.need q3) fun _ r' i1 i2 i3=>Wt.ok ⟨k1,q1⟩ (by simp only[Exp.cnt];omega) i3
    ·have:=b1k hw
     exact Wt.bind (FT.ty k3.tail) fun q r2 q1 q2 q3=>Wt.bind (Wt.need q3) fun _ r' i1 i2 i3=>Wt.ok ⟨k1,q1⟩ (by simp only[Exp.cnt];omega) i3
  ·
   intro bs l h hb
   rw[e1t]
   refine Wt.bind (FP.pat h) fun p r k1 k2 k3=>Wt.bind (Wt.need k3) fun _ r' j1 j2 j3=>Wt.bind (ih.exp j3) fun x r2 q1 q2 q3=>?_
   have hok:i1h (bs++[(p,x)]):=w1e hb ⟨k1,q1,trivial⟩
   have hcn:c1G (bs++[(p,x)])=c1G bs+(p.cnt+x.cnt):=by rw[u1z];simp only[c1G];omega
   refine Wt.ite (fun hw=>?_) (fun _=>Wt.bind (Wt.need q3) fun _ r' i1 i2 i3=>Wt.ok hok (by omega) i3)
   have:=b1k hw
   intro b r3 e
   obtain⟨o1,o2,o3⟩:=ih.cases (bs:=bs++[(p,x)]) q3.tail hok b r3 e
   exact⟨o1,by omega,o3⟩
  ·
   intro ds l h hd
   rw[i1g]
   refine Wt.ite (fun _=>?_) (fun _=>Wt.ok hd (Nat.le_refl _) h)
   refine Wt.bind (ih.dec h) fun d r k1 k2 k3=>fun b r3 e=>?_
   have hok:k1M (ds++[d]):=y1U hd ⟨k1,trivial⟩
   have hcn:d1y (ds++[d])=d1y ds+d.cnt:=by rw[w1d];simp only[d1y];omega
   obtain⟨o1,o2,o3⟩:=ih.decs (ds:=ds++[d]) k3 hok b r3 e
   exact⟨o1,by omega,o3⟩
  ·
   intro l h
   rw[pDec]
   have hpl:=pl_lt hz h
   refine Wt.ite (fun hw=>?_) fun _=>?_
   ·have:=b1k hw
    exact Wt.bind (Wt.taken h.tail) fun nm r k1 k2 k3=>Wt.bind (ih.body k3) fun b r2 q1 q2 q3=>Wt.ok ⟨hpl,k1,q1.1,q1.2⟩ (by simp only[Dec.cnt];omega) q3
   ·refine Wt.bind (Wt.need h) fun _ r j1 j2 j3=>Wt.bind (Wt.taken j3) fun nm r1 k1 k2 k3=>Wt.bind (Wt.taken k3) fun p r2 i1 i2 i3=>?_
    obtain⟨p1,p2,p3⟩:=b2L (z:=z) _ (Nat.le_refl _) (ps:=[p]) i3 (fun w hw=>by simp at hw;subst hw;exact i1)
    refine Wt.bind (ih.body p3) fun b r3 q1 q2 q3=>Wt.ok ⟨hpl,k1,p1,q1.1,q1.2⟩ ?_ q3
    simp only[Dec.cnt]
    simp only[List.length_cons,List.length_nil] at p2
    omega
  ·
   intro l h
   rw[h1h]
   refine Wt.ite (fun hw=>?_) fun _=>?_
   ·have:=b1k hw
    exact Wt.bind (FT.ty h.tail) fun t r k1 k2 k3=>Wt.bind (Wt.need k3) fun _ r' j1 j2 j3=>Wt.bind (ih.exp j3) fun x r2 q1 q2 q3=>Wt.ok ⟨k1,q1⟩ (by simp only[n1A];omega) q3
   ·exact Wt.bind (Wt.need h) fun _ r' j1 j2 j3=>Wt.bind (ih.exp j3) fun x r2 q1 q2 q3=>Wt.ok ⟨trivial,q1⟩ (by simp only[n1A];omega) q3
end Go.Pa
end

section
/- TREES, printed by kt.py out of z10.txt -/
open Go Go.Eng
open IntKind (wrap)
namespace Go.Proofs
set_option linter.unusedVariables false
set_option maxRecDepth 100000
@[irreducible] noncomputable def g2w (l:List (List AV)) (z d:Int):KT:=kt5 a1i [AV.ptr 0 0] [[AV.slice 4 l Own.no,vI z,vI 0,vI 0,vI d]]
theorem c2w (l z d):(kt5 a1i [AV.ptr 0 0] [[AV.slice 4 l Own.no,vI z,vI 0,vI 0,vI d]]).prune (PH.of 36)=
 .stage (.done (zkS 37 [(1,(.func (.func a1L) [] [])),(2,(.ref [zkP])),(4,.ptr 1 0)] [] [zk8 l z d,zk10] 1)) ((g2w l z d).K):=by kernel_rfl
theorem w1s (l z d):((g2w l z d).K (zkS 37 [(1,(.func (.func a1L) [] [])),(2,(.ref [zkP])),(4,.ptr 1 0)] [] [zk8 l z d,zk10] 1)).prune (PH.of 515190998833257512925)=
 .alt (zkI3 fun i i1 i2=>zkR6 fun l1 l2 l3 l4 l5 l6=>zkI7 fun i3 i4 i5 i6 i7 i8 i9=>zkR5 fun l7 l8 l9 l10 l11=>.call a1L [zkP] .none [zk8 l z (wrap .i64 (d+1)),zk10] (zkR (.agg (zk7 i i1 i2 l1 l2 l3 l4 l5)) [zk1 l6 i3 i4 i5 i6,[vI i7,vI i8,vI i9,.slice 0 l7 .full,.slice 0 l8 .full,.slice 0 l9 .full,.slice 0 l10 .full,.slice 0 l11 .full]]) (zkL 1 l1 (zkL 1 l2 (zkL 1 l3 (zkL 1 l4 (zkL 1 l5 (zkL 1 l6 (.ret (zkR (.agg (zk7 i i1 i2 l1 l2 l3 l4 l5)) [zk1 l6 i3 i4 i5 (wrap .i64 (i6-1))]))))))))) (.exR fun l1=>zkI7 fun i i1 i2 i3 i4 i5 i6=>zkR5 fun l2 l3 l4 l5 l6=>.call a1L [zkP] .none [zk8 l z (wrap .i64 (d+1)),zk10] (zkQ zkF0 [zk1 l1 i i1 i2 i3,[vI i4,vI i5,vI i6,.slice 0 l2 .full,.slice 0 l3 .full,.slice 0 l4 .full,.slice 0 l5 .full,.slice 0 l6 .full]]) (.branch (decide (wrap .i64 (i3-1)>0)) (zkL 1 l1 (.ret (zkQ zkF0 [zk1 l1 i i1 i2 (wrap .i64 (i3-1))]))) (zkL 1 l1 (.ret (zkR (.agg zk41) [zk1 l1 i i1 i2 (wrap .i64 (i3-1))]))))):=by kernel_rfl
@[irreducible] noncomputable def g2x (l:List (List AV)) (z d:Int):KT:=kt5 b1a [AV.ptr 0 0] [[AV.slice 4 l Own.no,vI z,vI 0,vI 0,vI d]]
theorem c2x (l z d):(kt5 b1a [AV.ptr 0 0] [[AV.slice 4 l Own.no,vI z,vI 0,vI 0,vI d]]).prune (PH.of 36)=
 .stage (.done (zkS 37 [(1,(.func (.func a1B) [] [])),(2,(.ref [zkP])),(4,.ptr 1 0)] [] [zk8 l z d,zk32 zkb2] 1)) ((g2x l z d).K):=by kernel_rfl
theorem w1t (l z d):((g2x l z d).K (zkS 37 [(1,(.func (.func a1B) [] [])),(2,(.ref [zkP])),(4,.ptr 1 0)] [] [zk8 l z d,zk32 zkb2] 1)).prune (PH.of 32972235721947798831069)=
 .alt (zkI2 fun i i1=>.exS fun s=>zkR7 fun l1 l2 l3 l4 l5 l6 l7=>zkI6 fun i2 i3 i4 i5 i6 i7=>.exS fun s1=>zkR6 fun l8 l9 l10 l11 l12 l13=>.call a1B [zkP] .none [zk8 l z (wrap .i64 (d+1)),zk32 zkb2] (zkR (.agg (zk43 i i1 s l1 l2 l3 l4 l5 l6)) [zk1 l7 i2 i3 i4 i5,zk49 i6 i7 s1 l8 l9 l10 l11 l12 l13]) (zkL 1 l1 (zkL 1 l2 (zkL 1 l3 (zkL 1 l4 (zkL 1 l5 (zkL 1 l6 (zkL 1 l7 (.ret (zkR (.agg (zk43 i i1 s l1 l2 l3 l4 l5 l6)) [zk1 l7 i2 i3 i4 (wrap .i64 (i5-1))])))))))))) (.exR fun l1=>zkI6 fun i i1 i2 i3 i4 i5=>.exS fun s=>zkR6 fun l2 l3 l4 l5 l6 l7=>zk110 a1B [zkP] [zk8 l z (wrap .i64 (d+1)),zk32 zkb2] l1 i i1 i2 i3 i4 i5 s l2 l3 l4 l5 l6 l7 (.branch (decide (wrap .i64 (i3-1)>0)) (zkL 1 l1 (.ret (zkQ zkF0 [zk1 l1 i i1 i2 (wrap .i64 (i3-1))]))) (zkL 1 l1 (.ret (zkR (.agg (zk108 zkb2)) [zk1 l1 i i1 i2 (wrap .i64 (i3-1))]))))):=by kernel_rfl
theorem c2y (l z d):(kt5 a1L [AV.ptr 0 0] [[AV.slice 4 l Own.no,vI z,vI 0,vI 0,vI d]]).prune (PH.of 3868680521818185023194861693805)=
 zk20 a1g [zkP,vS h2l] [zk8 l z d] (fun b l1 i i1 i2 i3=>.branch b (zk62 a1H [zkP] [zk1 l1 i i1 i2 i3] (fun i4 s l2 i5 l3 l4 i6 i7 i8 i9=>zk31 a1f [zkP,vS zkb4] [zk1 l4 i6 i7 i8 i9] (fun l5 i10 i11 i12 i13=>zk26 a1i [zkP] [zk1 l5 i10 i11 i12 i13] (fun i14 i15 i16 l6 l7 l8 l9 l10 l11 i17 i18 i19 i20=>.ret (zkR (.agg [vI 7,vI 0,vI 0,zkN 1 [],zkN 5 [zk13 i4 s l2 i5 l3],zkN 8 [zk7 i14 i15 i16 l6 l7 l8 l9 l10],zkN 9 [],zkN 4 []]) [zk1 l11 i17 i18 i19 i20])) zk36) zk36) zk36) (zk20 a1g [zkP,vS h2k] [zk1 l1 i i1 i2 i3] (fun b1 l2 i4 i5 i6 i7=>.branch b1 (zk26 a1i [zkP] [zk1 l2 i4 i5 i6 i7] (fun i8 i9 i10 l3 l4 l5 l6 l7 l8 i11 i12 i13 i14=>zk31 a1f [zkP,vS h2i] [zk1 l8 i11 i12 i13 i14] (fun l9 i15 i16 i17 i18=>zk26 a1i [zkP] [zk1 l9 i15 i16 i17 i18] (fun i19 i20 i21 l10 l11 l12 l13 l14 l15 i22 i23 i24 i25=>zk31 a1f [zkP,vS h2m] [zk1 l15 i22 i23 i24 i25] (fun l16 i26 i27 i28 i29=>zk26 a1i [zkP] [zk1 l16 i26 i27 i28 i29] (fun i30 i31 i32 l17 l18 l19 l20 l21 l22 i33 i34 i35 i36=>.ret (zkR (.agg [vI 11,vI 0,vI 0,zkN 1 [],zkN 5 [],zkN 8 [zk7 i8 i9 i10 l3 l4 l5 l6 l7,zk7 i19 i20 i21 l10 l11 l12 l13 l14,zk7 i30 i31 i32 l17 l18 l19 l20 l21],zkN 9 [],zkN 4 []]) [zk1 l22 i33 i34 i35 i36])) zk36) zk36) zk36) zk36) zk36) (zk26 a1k [zkP,vI 0] [zk1 l2 i4 i5 i6 i7] (fun i8 i9 i10 l3 l4 l5 l6 l7 l8 i11 i12 i13 i14=>.ret (zkR (.agg (zk7 i8 i9 i10 l3 l4 l5 l6 l7)) [zk1 l8 i11 i12 i13 i14])) zk36)))):=by kernel_rfl
@[irreducible] noncomputable def l1l (l:List (List AV)) (z d:Int):KT:=kt5 a1T [AV.ptr 0 0] [[AV.slice 4 l Own.no,vI z,vI 0,vI 0,vI d]]
theorem q1J (l z d):(kt5 a1T [AV.ptr 0 0] [[AV.slice 4 l Own.no,vI z,vI 0,vI 0,vI d]]).prune (PH.of 199725)=
 zk26 a1i [zkP] [zk8 l z d] (fun i i1 i2 l1 l2 l3 l4 l5 l6 i3 i4 i5 i6=>zk31 a1f [zkP,vS h2j] [zk1 l6 i3 i4 i5 i6] (fun l7 i7 i8 i9 i10=>zk20 a1g [zkP,vS h2h] [zk1 l7 i7 i8 i9 i10] (fun b l8 i11 i12 i13 i14=>(((((((((((((((((((((((((l1l l z d).T.I i).I i1).I i2).R l1).R l2).R l3).R l4).R l5).R l6).I i3).I i4).I i5).I i6).T.T.R l7).I i7).I i8).I i9).I i10).T.B b).R l8).I i11).I i12).I i13).I i14).T)) zk36) zk36:=by kernel_rfl
theorem z1q (l z d):(kt5 a1k [AV.ptr 0 0,vI 3] [[AV.slice 4 l Own.no,vI z,vI 0,vI 0,vI d]]).prune (PH.of 25003)=
 zk26 b1r [zkP] [zk8 l z d] (fun i i1 i2 l1 l2 l3 l4 l5 l6 i3 i4 i5 i6=>.ret (zkR (.agg (zk7 i i1 i2 l1 l2 l3 l4 l5)) [zk1 l6 i3 i4 i5 i6])) zk36:=by kernel_rfl
@[irreducible] noncomputable def w1u (l:List (List AV)) (z d:Int):KT:=kt5 a1k [AV.ptr 0 0,vI 2] [[AV.slice 4 l Own.no,vI z,vI 0,vI 0,vI d]]
theorem z1r (l z d):(kt5 a1k [AV.ptr 0 0,vI 2] [[AV.slice 4 l Own.no,vI z,vI 0,vI 0,vI d]]).prune (PH.of 1599788)=
 zk26 a1k [zkP,vI (wrap .i64 (2+1))] [zk8 l z d] (fun i i1 i2 l1 l2 l3 l4 l5 l6 i3 i4 i5 i6=>((((((((((((((w1u l z d).F.T.I i).I i1).I i2).R l1).R l2).R l3).R l4).R l5).R l6).I i3).I i4).I i5).I i6).T.F.F.T) zk36:=by kernel_rfl
@[irreducible] noncomputable def w1v (l:List (List AV)) (z d:Int):KT:=kt5 a1k [AV.ptr 0 0,vI 1] [[AV.slice 4 l Own.no,vI z,vI 0,vI 0,vI d]]
theorem z1s (l z d):(kt5 a1k [AV.ptr 0 0,vI 1] [[AV.slice 4 l Own.no,vI z,vI 0,vI 0,vI d]]).prune (PH.of 1599276)=
 zk26 a1k [zkP,vI (wrap .i64 (1+1))] [zk8 l z d] (fun i i1 i2 l1 l2 l3 l4 l5 l6 i3 i4 i5 i6=>((((((((((((((w1v l z d).F.T.I i).I i1).I i2).R l1).R l2).R l3).R l4).R l5).R l6).I i3).I i4).I i5).I i6).T.F.T.T) zk36:=by kernel_rfl
@[irreducible] noncomputable def w1w (l:List (List AV)) (z d:Int):KT:=kt5 a1k [AV.ptr 0 0,vI 0] [[AV.slice 4 l Own.no,vI z,vI 0,vI 0,vI d]]
theorem z1t (l z d):(kt5 a1k [AV.ptr 0 0,vI 0] [[AV.slice 4 l Own.no,vI z,vI 0,vI 0,vI d]]).prune (PH.of 199916)=
 zk26 a1k [zkP,vI (wrap .i64 (0+1))] [zk8 l z d] (fun i i1 i2 l1 l2 l3 l4 l5 l6 i3 i4 i5 i6=>((((((((((((((w1w l z d).F.T.I i).I i1).I i2).R l1).R l2).R l3).R l4).R l5).R l6).I i3).I i4).I i5).I i6).T.T.T) zk36:=by kernel_rfl
@[irreducible] noncomputable def c2z (l:List (List AV)) (z d:Int):KT:=kt5 b1r [AV.ptr 0 0] [[AV.slice 4 l Own.no,vI z,vI 0,vI 0,vI d]]
theorem c2A (l z d):(kt5 b1r [AV.ptr 0 0] [[AV.slice 4 l Own.no,vI z,vI 0,vI 0,vI d]]).prune (PH.of 389)=
 zk26 a1v [zkP] [zk8 l z d] (fun i i1 i2 l1 l2 l3 l4 l5 l6 i3 i4 i5 i6=>((((((((((((((c2z l z d).T.I i).I i1).I i2).R l1).R l2).R l3).R l4).R l5).R l6).I i3).I i4).I i5).I i6).T) zk36:=by kernel_rfl
@[irreducible] noncomputable def m1V (l:List (List AV)) (z d:Int):KT:=kt5 a1v [AV.ptr 0 0] [[AV.slice 4 l Own.no,vI z,vI 0,vI 0,vI d]]
theorem z1u (l z d):(kt5 a1v [AV.ptr 0 0] [[AV.slice 4 l Own.no,vI z,vI 0,vI 0,vI d]]).prune (PH.of 30907293766924406018421772538301)=
 .stage (zk5 a1l [zkP,vI 4] [zk8 l z d] (fun b=>.branch b (.exI fun i=>.exS fun s=>zkI2 fun i1 i2=>.row l 0 (zk9 i s i1 i2) (.need (decide ((l=[]∨(fun x=>x.size) Pg.types[e1y]=4)∧(0:Int)≤1∧1≤(↑l.length:Int)∧(↑l.length:Int)≤(↑l.length:Int))) (.out (.ret (zkR (.agg [vI 1,vI 0,vI i1,zkN 1 [],zkN 5 [],zkN 8 [],zkN 9 [],zkN 4 []]) [zk8 (List.drop (Int.toNat 1) l) z d]))))) (zk20 a1g [zkP,vS e2M] [zk8 l z d] (fun b1 l1 i i1 i2 i3=>.branch b1 (((((((((m1V l z d).T.B b).T.F.B b1).R l1).I i).I i1).I i2).I i3).T.T) (zk20 a1g [zkP,vS zkb8] [zk1 l1 i i1 i2 i3] (fun b2 l2 i4 i5 i6 i7=>.branch b2 (zk26 a1T [zkP] [zk1 l2 i4 i5 i6 i7] (fun i8 i9 i10 l3 l4 l5 l6 l7 l8 i11 i12 i13 i14=>.out (.ret (zkR (.agg (zk7 i8 i9 i10 l3 l4 l5 l6 l7)) [zk1 l8 i11 i12 i13 i14]))) zk27) (zk20 a1g [zkP,vS z1b] [zk1 l2 i4 i5 i6 i7] (fun b3 l3 i8 i9 i10 i11=>.branch b3 (.out (.ret (zkR (.agg zk115) [zk1 l3 i8 i9 i10 i11]))) (zk20 a1g [zkP,vS z1d] [zk1 l3 i8 i9 i10 i11] (fun b4 l4 i12 i13 i14 i15=>.branch b4 (.out (.ret (zkR (.agg zk116) [zk1 l4 i12 i13 i14 i15]))) (zk5 a1l [zkP,vI 1] [zk1 l4 i12 i13 i14 i15] (fun b5=>.branch b5 (e2Q a1C zk99 [zk1 l4 i12 i13 i14 i15] (fun l5 b6 l6 i16 i17 i18 i19=>.branch b6 (.out (.ret (zkR (.agg (zk96 l5)) [zk1 l6 i16 i17 i18 i19]))) (.out (.ret (zkR (.agg (zk97 l5)) [zk1 l6 i16 i17 i18 i19])))) zk27) (zk5 a1l [zkP,vI 2] [zk1 l4 i12 i13 i14 i15] (fun b6=>.branch b6 (e2Q a1C zk99 [zk1 l4 i12 i13 i14 i15] (fun l5 b7 l6 i16 i17 i18 i19=>.branch b7 (.out (.ret (zkR (.agg (zk96 l5)) [zk1 l6 i16 i17 i18 i19]))) (.out (.ret (zkR (.agg (zk97 l5)) [zk1 l6 i16 i17 i18 i19])))) zk27) (.done (zkS 109 [(0,zkP),(2,.lp 2 0 0)] [(2,0,zk10)] [zk1 l4 i12 i13 i14 i15] 1)))))))))))))))) ((m1V l z d).K):=by kernel_rfl
@[irreducible] noncomputable def u1Y (l:List (List AV)) (z d:Int) (q1x0:List (List AV)) (q1x1 q1x2 q1x3 q1x4:Int):KT:=(m1V l z d).K (zkS 109 [(0,zkP),(2,.lp 2 0 0)] [(2,0,zk10)] [zk1 q1x0 q1x1 q1x2 q1x3 q1x4] 1)
theorem u1Z (l z d q1x0 q1x1 q1x2 q1x3 q1x4):((m1V l z d).K (zkS 109 [(0,zkP),(2,.lp 2 0 0)] [(2,0,zk10)] [zk1 q1x0 q1x1 q1x2 q1x3 q1x4] 1)).prune (PH.of 109778587872580013)=
 zk31 a1f [zkP,vS b2S] [zk1 q1x0 q1x1 q1x2 q1x3 q1x4] (fun l1 i i1 i2 i3=>zk20 a1g [zkP,vS b2R] [zk1 l1 i i1 i2 i3] (fun b l2 i4 i5 i6 i7=>.branch b (.ret (zkR (.agg zk117) [zk1 l2 i4 i5 i6 i7])) (zk26 a1i [zkP] [zk1 l2 i4 i5 i6 i7] (fun i8 i9 i10 l3 l4 l5 l6 l7 l8 i11 i12 i13 i14=>.stage (zk20 a1g [zkP,vS i2M] [zk1 l8 i11 i12 i13 i14] (fun b1 l9 i15 i16 i17 i18=>.branch b1 (zk26 a1i [zkP] [zk1 l9 i15 i16 i17 i18] (fun i19 i20 i21 l10 l11 l12 l13 l14 l15 i22 i23 i24 i25=>.done (zkS 109 [(0,zkP),(2,.lp 2 0 0),(7,.lp 7 0 0)] [(2,0,zk10),(7,0,[vI 9,vI 0,vI 0,zkE,zkE,.slice 8 [zk7 i8 i9 i10 l3 l4 l5 l6 l7,zk7 i19 i20 i21 l10 l11 l12 l13 l14] .full,zkE,zkE])] [zk1 l15 i22 i23 i24 i25] 1)) zk27) (zk20 a1g [zkP,vS zkb41] [zk1 l9 i15 i16 i17 i18] (fun b2 l10 i19 i20 i21 i22=>.branch b2 (zk63 a1o [zkP] [zk1 l10 i19 i20 i21 i22] (fun i23 s l11 l12 l13 i24 i25 i26 i27=>.done (zkS 109 [(0,zkP),(2,.lp 2 0 0),(7,.lp 7 0 0)] [(2,0,zk10),(7,0,[vI 14,vI 0,vI 0,zkE,zkE,.slice 8 [zk7 i8 i9 i10 l3 l4 l5 l6 l7] .full,zkE,.slice 4 [zk6 i23 s l11 l12] .full])] [zk1 l13 i24 i25 i26 i27] 1)) zk27) (.done (zkS 109 [(0,zkP),(2,.lp 2 0 0),(7,.lp 7 0 0)] [(2,0,zk10),(7,0,zk7 i8 i9 i10 l3 l4 l5 l6 l7)] [zk1 l10 i19 i20 i21 i22] 1)))))) ((((((((((((((((((((((((((u1Y l z d q1x0 q1x1 q1x2 q1x3 q1x4).T.R l1).I i).I i1).I i2).I i3).T.B b).R l2).I i4).I i5).I i6).I i7).T.F.T.I i8).I i9).I i10).R l3).R l4).R l5).R l6).R l7).R l8).I i11).I i12).I i13).I i14).T.K)) zk36))) zk36:=by kernel_rfl
theorem k1i (l z d q1x0 q1x1 q1x2 q1x3 q1x4 l1 i i1 i2 i3) (b:Bool) (l2 i4 i5 i6 i7 i8 i9 i10 l3 l4 l5 l6 l7 l8 i11 i12 i13 i14 q2x0 q2x1 q2x2) (q2x3:Nat) (q2x4) (q2x5:Own) (q2x6:Nat) (q2x7) (q2x8:Own) (q2x9) (q2x10:Own) (q2x11:Nat) (q2x12) (q2x13:Own) (q2x14:Nat) (q2x15) (q2x16:Own) (q2x17 q2x18 q2x19 q2x20 q2x21):((((((((((((((((((((((((((u1Y l z d q1x0 q1x1 q1x2 q1x3 q1x4).T.R l1).I i).I i1).I i2).I i3).T.B b).R l2).I i4).I i5).I i6).I i7).T.F.T.I i8).I i9).I i10).R l3).R l4).R l5).R l6).R l7).R l8).I i11).I i12).I i13).I i14).T.K (zkS 109 [(0,zkP),(2,.lp 2 0 0),(7,.lp 7 0 0)] [(2,0,zk10),(7,0,[vI q2x0,vI q2x1,vI q2x2,.slice q2x3 q2x4 q2x5,.slice q2x6 q2x7 q2x8,.slice 8 q2x9 q2x10,.slice q2x11 q2x12 q2x13,.slice q2x14 q2x15 q2x16])] [zk1 q2x17 q2x18 q2x19 q2x20 q2x21] 1)).prune (PH.of 3125)=
 zk31 a1f [zkP,vS b2R] [zk1 q2x17 q2x18 q2x19 q2x20 q2x21] (fun l9 i15 i16 i17 i18=>.ret (zkR (.agg (zk40 q2x0 q2x1 q2x2 (a1D Pg (y_s_string:TypeId) (AV.slice q2x3 q2x4 q2x5).dis.dis.dis) (a1D Pg (y_s_api_Pat:TypeId) (AV.slice q2x6 q2x7 q2x8).dis.dis.dis) (a1D Pg (y_s_api_Exp:TypeId) (AV.slice 8 q2x9 q2x10).dis.dis.dis) (a1D Pg (y_s_api_Dec:TypeId) (AV.slice q2x11 q2x12 q2x13).dis.dis.dis) (a1D Pg (y_s_api_Ty:TypeId) (AV.slice q2x14 q2x15 q2x16).dis.dis.dis))) [zk1 l9 i15 i16 i17 i18])) zk36:=by kernel_rfl
end Go.Proofs
end

section
/- PARSE: expressions and declarations asq cells; the program's readers that guard -/
set_option linter.unusedVariables false
set_option linter.unusedSimpArgs false
set_option maxRecDepth 100000
open Go Go.Eng Go.Pa
open Go.Lx (T Tok)
namespace Go.Proofs
def XK:Exp→Int
 | .int _=>1
 | .tru=>2
 | .fls=>3
 | .unit=>4
 | .var _=>5
 | .con _=>6
 | .fn _ _=>7
 | .app _ _=>8
 | .pair _ _=>9
 | .lets _ _=>10
 | .ite _ _ _=>11
 | .cases _ _=>12
 | .bin _ _ _=>13
 | .ann _ _=>14
def XO:Exp→Int
 | .bin o _ _=>o
 |_=>0
def XV:Exp→Int
 | .int v=>v
 |_=>0
def XP:Exp→List T
 | .var p=>p
 | .con p=>p
 |_=>[]
def XPs:Exp→List Row
 | .fn p _=>[p.row]
 | .cases _ l=>l.map fun b=>b.1.row
 |_=>[]
def XKs:Exp→List Row
 | .fn _ x=>[x.row]
 | .app f x=>[f.row,x.row]
 | .pair a b=>[a.row,b.row]
 | .lets _ x=>[x.row]
 | .ite c a b=>[c.row,a.row,b.row]
 | .cases x l=>x.row::f1e l
 | .bin _ a b=>[a.row,b.row]
 | .ann x _=>[x.row]
 |_=>[]
def XDs:Exp→List Row
 | .lets l _=>j1h l
 |_=>[]
def XTs:Exp→List Row
 | .ann _ t=>[t.row]
 |_=>[]
theorem f2l (x:Exp):x.row=expR (XK x) (XO x) (XV x) (XP x) (XPs x) (XKs x) (XDs x) (XTs x):=by
 cases x<;>simp only[Exp.row,XK,XO,XV,XP,XPs,XKs,XDs,XTs]
theorem b1C (x:Exp):avs x.row=[vI (XK x),vI (XO x),vI (XV x),.slice 1 (c1o (XP x)) .no,.slice 5 (avss (XPs x)) .no,.slice 8 (avss (XKs x)) .no,.slice 9 (avss (XDs x)) .no,.slice 4 (avss (XTs x)) .no]:=by
 rw[f2l]
 simp only[expR,avs,CT.av,cp,h1m];rfl
abbrev expV (x:Exp):AV:=.agg (avs x.row)
theorem c1p (x:Exp): .agg [vI (XK x),vI (XO x),vI (XV x),.slice 1 (c1o (XP x)) .no,.slice 5 (avss (XPs x)) .no,.slice 8 (avss (XKs x)) .no,.slice 9 (avss (XDs x)) .no,.slice 4 (avss (XTs x)) .no]=expV x:=by rw[expV,b1C]
abbrev exp0:AV:=.agg [vI 0,vI 0,vI 0,.slice 1 [] .no,.slice 5 [] .no,.slice 8 [] .no,.slice 9 [] .no,.slice 4 [] .no]
def DK:Dec→Int
 | .val .. =>1
 | .func .. =>2
def DA:Dec→Int
 | .val a _ _ _=>a
 | .func a _ _ _ _=>a
def DN:Dec→T
 | .val _ n _ _=>n
 | .func _ n _ _ _=>n
def DP:Dec→List T
 | .val .. =>[]
 | .func _ _ ps _ _=>ps
def DTs:Dec→List Row
 | .val _ _ t _=>t.toList.map Ty.row
 | .func _ _ _ t _=>t.toList.map Ty.row
def DEs:Dec→List Row
 | .val _ _ _ x=>[x.row]
 | .func _ _ _ _ x=>[x.row]
theorem f2m (d:Dec):d.row=decR (DK d) (DA d) (DN d) (DP d) (DTs d) (DEs d):=by
 cases d<;>simp only[Dec.row,DK,DA,DN,DP,DTs,DEs]
theorem m1T (d:Dec):avs d.row=[vI (DK d),vI (DA d),vS (bs (DN d)),.slice 1 (c1o (DP d)) .no,.slice 4 (avss (DTs d)) .no,.slice 8 (avss (DEs d)) .no,.slice 2 [] .no,.slice 5 [] .no,.slice 5 [] .no]:=by
 rw[f2m]
 simp only[decR,avs,CT.av,cp,h1m,avss];rfl
abbrev decV (d:Dec):AV:=.agg (avs d.row)
theorem p1J (d:Dec): .agg [vI (DK d),vI (DA d),vS (bs (DN d)),.slice 1 (c1o (DP d)) .no,.slice 4 (avss (DTs d)) .no,.slice 8 (avss (DEs d)) .no,.slice 2 [] .no,.slice 5 [] .no,.slice 5 [] .no]=decV d:=by rw[decV,m1T]
abbrev decZ:AV:=.agg [vI 0,vI 0,vS ⟨#[]⟩,.slice 1 [] .no,.slice 4 [] .no,.slice 8 [] .no,.slice 2 [] .no,.slice 5 [] .no,.slice 5 [] .no]
theorem j1l (ρ:Nat→Nat) (t:Exp):(expV t).ren ρ=expV t:=by simp only[expV,AV.ren,k1c]
theorem f2n (ρ:Nat→Nat) (t:Dec):(decV t).ren ρ=decV t:=by simp only[decV,AV.ren,k1c]
theorem k1H (n:Nat) (l:List Row):lowss n (avss l)=true:=o1e n l
section
variable {QD:List (St→Prop)} {QR:CRes→Prop}
variable {z d:Nat} {g:FuncId} {args:List AV} {H:Heap} {k2:List (List AV)→Int→Int→Int→Int→KT}
theorem e1b {F:Res Exp} {k1:Int→Int→Int→List (List AV)→List (List AV)→List (List AV)→List (List AV)→List (List AV)→List (List AV)→Int→Int→Int→Int→KT} (c:RC expV F z d g args H)
  (hok:∀t l,F=.ok t l→Gd l→(k1 (XK t) (XO t) (XV t) (c1o (XP t)) (avss (XPs t)) (avss (XKs t)) (avss (XDs t)) (avss (XTs t)) (tks l) z 0 0 d).wp Pg cfg0 evp QD QR) (hno:∀e p l,F=.no e p→e≠0→(k2 (tks l) z e p d).wp Pg cfg0 evp QD QR):
  (KT.alt (.exI fun i=>.exI fun i1=>.exI fun i2=>.exR fun l1=>.exR fun l2=>.exR fun l3=>.exR fun l4=>.exR fun l5=>.exR fun m=>.exI fun a=>.exI fun e=>.exI fun p=>.exI fun d'=>.call g args .none H ⟨.ret (.agg [vI i,vI i1,vI i2,.slice 1 l1 .no,.slice 5 l2 .no,.slice 8 l3 .no,.slice 9 l4 .no,.slice 4 l5 .no]),.none,[hp5 m a e p d']⟩ (k1 i i1 i2 l1 l2 l3 l4 l5 m a e p d'))
   (.exR fun m=>.exI fun a=>.exI fun e=>.exI fun p=>.exI fun d'=>.call g args .none H ⟨.panic g1N,.none,[hp5 m a e p d']⟩ (k2 m a e p d'))).wp Pg cfg0 evp QD QR:=by
 obtain⟨r,h1,h2⟩:=c
 cases hF:F with
 |ok a l=>
  rw[hF] at h2
  simp only[Rq,expV,b1C] at h2
  obtain⟨hg,rfl⟩:=h2;exact .inl ⟨_,_,_,_,_,_,_,_,_,_,_,_,_,h1,hok a l hF hg⟩
 |no e p=>rw[hF] at h2;obtain⟨he,l,rfl⟩:=h2;exact .inr ⟨_,_,_,_,_,h1,hno e p l hF he⟩
theorem g2t {F:Res Dec} {k1:Int→Int→ByteArray→List (List AV)→List (List AV)→List (List AV)→List (List AV)→List (List AV)→List (List AV)→List (List AV)→Int→Int→Int→Int→KT} (c:RC decV F z d g args H)
  (hok:∀t l,F=.ok t l→Gd l→(k1 (DK t) (DA t) (bs (DN t)) (c1o (DP t)) (avss (DTs t)) (avss (DEs t)) [] [] [] (tks l) z 0 0 d).wp Pg cfg0 evp QD QR) (hno:∀e p l,F=.no e p→e≠0→(k2 (tks l) z e p d).wp Pg cfg0 evp QD QR):
  (KT.alt (.exI fun i=>.exI fun i1=>.exS fun s=>.exR fun l1=>.exR fun l2=>.exR fun l3=>.exR fun l4=>.exR fun l5=>.exR fun l6=>.exR fun m=>.exI fun a=>.exI fun e=>.exI fun p=>.exI fun d'=>.call g args .none H ⟨.ret (.agg [vI i,vI i1,vS s,.slice 1 l1 .no,.slice 4 l2 .no,.slice 8 l3 .no,.slice 2 l4 .no,.slice 5 l5 .no,.slice 5 l6 .no]),.none,[hp5 m a e p d']⟩ (k1 i i1 s l1 l2 l3 l4 l5 l6 m a e p d'))
   (.exR fun m=>.exI fun a=>.exI fun e=>.exI fun p=>.exI fun d'=>.call g args .none H ⟨.panic g1N,.none,[hp5 m a e p d']⟩ (k2 m a e p d'))).wp Pg cfg0 evp QD QR:=by
 obtain⟨r,h1,h2⟩:=c
 cases hF:F with
 |ok a l=>
  rw[hF] at h2
  simp only[Rq,decV,m1T] at h2
  obtain⟨hg,rfl⟩:=h2;exact .inl ⟨_,_,_,_,_,_,_,_,_,_,_,_,_,_,h1,hok a l hF hg⟩
 |no e p=>rw[hF] at h2;obtain⟨he,l,rfl⟩:=h2;exact .inr ⟨_,_,_,_,_,h1,hno e p l hF he⟩
end
theorem u1Q {z d:Nat} {l:List Tok} {F:Res Exp} (hB:d<BIG) (c:RC expV F z (d+1) a1L [.ptr 0 0] (rH l z (d+1))):RM' expV exp0 F z d a1i [.ptr 0 0] (rH l z d):=by
 have h1:=w1n hB
 have h2:=w1o hB
 refine x1H (b1g (c2w ..) (a1t (a1e (b1g (w1s ..) ?_))))
 rw[h1]
 rcases d1B (K:=[[vI 0,vI 0,vI 0,.slice 0 [] .full,.slice 0 [] .full,.slice 0 [] .full,.slice 0 [] .full,.slice 0 [] .full]]) c f1Z (fun a k=>j1l _ a) rfl with ⟨t,m,hF,hg,c⟩|⟨e,p,m,hF,he,c⟩
 ·simp only[expV,b1C] at c
  refine .inl ⟨_,_,_,_,_,_,_,_,_,_,_,_,_,_,_,_,[],[],[],[],[],c,g1U ..,k1H ..,k1H ..,k1H ..,k1H ..,b1d ..,?_⟩
  rw[h2];exact f2g hF hg (c1p t)
 ·refine .inr ⟨_,_,_,_,_,_,_,_,[],[],[],[],[],c,a1d (fun h=>⟨b1d ..,?_⟩) (fun h=>⟨b1d ..,?_⟩)⟩
  ·rw[h2] at h⊢;exact f2h (x1L h) hF he
  ·rw[h2] at h⊢;exact x1K (dec0 h) hF he
theorem c2p {z d:Nat} {l:List Tok} {F:Res Dec} (hB:d<BIG) (c:RC decV F z (d+1) a1B [.ptr 0 0] (rH l z (d+1))):RM' decV decZ F z d b1a [.ptr 0 0] (rH l z d):=by
 have h1:=w1n hB
 have h2:=w1o hB
 refine x1H (b1g (c2x ..) (a1t (a1e (b1g (w1t ..) ?_))))
 rw[h1]
 rcases d1B (K:=[[vI 0,vI 0,vS ⟨#[]⟩,.slice 0 [] .full,.slice 0 [] .full,.slice 0 [] .full,.slice 0 [] .full,.slice 0 [] .full,.slice 0 [] .full]]) c f1Z (fun a k=>f2n _ a) rfl with ⟨t,m,hF,hg,c⟩|⟨e,p,m,hF,he,c⟩
 ·simp only[decV,m1T] at c
  refine .inl ⟨_,_,_,_,_,_,_,_,_,_,_,_,_,_,_,_,_,[],[],[],[],[],[],c,g1U ..,k1H ..,k1H ..,rfl,rfl,rfl,b1d ..,?_⟩
  rw[h2];exact f2g hF hg (p1J t)
 ·refine .inr ⟨_,_,_,_,_,_,_,_,[],[],[],[],[],[],c,a1d (fun h=>⟨b1d ..,?_⟩) (fun h=>⟨b1d ..,?_⟩)⟩
  ·rw[h2] at h⊢;exact f2h (x1L h) hF he
  ·rw[h2] at h⊢;exact x1K (dec0 h) hF he
end Go.Proofs
end
