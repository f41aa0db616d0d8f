/- Texts of this proof folded into one: E14a E14 E15 E15b E16 E17 E18b E24. -/
import Derived.Test.YtmdjdcnabbapgaaGreatDoorW3
import Derived.Scope
import Derived.ChangeArms
import Derived.ChangeSlices
import Derived.DataReads
import Derived.Below
section
/-
  THE ENGINE, part 14a: what is low; a variable of the frame's own that is lent to a call.
-/
set_option linter.unusedVariables false
set_option linter.unusedSimpArgs false
namespace Go.Eng
theorem r1P (n:Nat):∀l:List (List AV),lowss n l=true→lows n l.flatten=true:=by
 have app:∀a b:List AV,lows n a=true→lows n b=true→lows n (a++b)=true:=by
  intro a
  induction a with
  |nil=>intro b _ h;exact h
  |cons x a ih=>
   intro b h1 h2
   simp only[lows,Bool.and_eq_true,List.cons_append] at h1⊢
   exact⟨h1.1,ih b h1.2 h2⟩
 intro l
 induction l with
 |nil=>intro _;simp [lows]
 |cons x l ih=>
  intro h
  simp only[lowss,Bool.and_eq_true] at h
  rw[List.flatten_cons]
  exact app _ _ h.1 (ih h.2)
theorem RepL.take_mu {I:Mem} {μ:List Nat} {n:Nat} {vs:List Value} {asq:List AV} (h:RepL I μ vs asq) (hl:lows n asq=true):RepL I (μ.take n) vs asq:=by
 induction h with
 |nil=>exact .nil
 |any v _ ih=>simp only[lows,Bool.and_eq_true] at hl;exact .any v (ih hl.2)
 |val v _ ih=>simp only[lows,Bool.and_eq_true] at hl;exact .val v (ih hl.2)
 |slice0 sz own _ ih=>simp only[lows,Bool.and_eq_true] at hl;exact .slice0 sz own (ih hl.2)
 |slice b o cap sz ws rows own hr _ h1 h2 h3 _ ih1 ih2=>
  simp only[lows,AV.low,Bool.and_eq_true] at hl
  exact .slice b o cap sz ws rows own hr (ih1 (r1P n rows hl.1)) h1 h2 h3 (ih2 hl.2)
 |slice1 a cap sz own ho _ ih=>simp only[lows,Bool.and_eq_true] at hl;exact .slice1 a cap sz own ho (ih hl.2)
 |ref b o ws cs hr _ _ ih1 ih2=>simp only[lows,AV.low,Bool.and_eq_true] at hl;exact .ref b o ws cs hr (ih1 hl.1) (ih2 hl.2)
 |ptr id off b hb _ ih=>
  simp only[lows,AV.low,Bool.and_eq_true,Nat.blt_eq] at hl
  exact .ptr id off b (by rw[List.getElem?_take,if_pos hl.1];exact hb) (ih hl.2)
 |func fn f c af ac _ _ _ ih1 ih2 ih3=>simp only[lows,AV.low,Bool.and_eq_true] at hl;exact .func fn f c af ac (ih1 hl.1.1) (ih2 hl.1.2) (ih3 hl.2)
 |iface t v a _ _ ih1 ih2=>simp only[lows,AV.low,Bool.and_eq_true] at hl;exact .iface t v a (ih1 (by simp only[lows,Bool.and_true];exact hl.1)) (ih2 hl.2)
 |agg cs acs ho _ _ ih1 ih2=>simp only[lows,AV.low,Bool.and_eq_true] at hl;exact .agg cs acs ho (ih1 hl.1) (ih2 hl.2)
 |tuple ws aws _ _ ih1 ih2=>simp only[lows,AV.low,Bool.and_eq_true] at hl;exact .tuple ws aws (ih1 hl.1) (ih2 hl.2)
theorem q1Z (b:Nat):∀(l:List Nat) (n:Nat),(l.take n).count b≤l.count b:=fun l n=>(List.take_sublist n l).count_le b
theorem o1H {α β:Type} (f:α→β→Nat):∀(n:Nat) (l:List α) (m:List β),zsum f (l.take n) (m.take n)≤zsum f l m
 |0,l,m=>by simp [zsum]
 |n+1,[],m=>by simp [zsum]
 |n+1,a::l,[]=>by simp [zsum]
 |n+1,a::l,b::m=>by
  have:=o1H f n l m
  simp only[List.take_succ_cons,zsum];omega
theorem a2V {n:Nat}:∀{H:Heap} {i:Nat} {cs:List AV},lowss n H=true→H[i]? =some cs→lows n cs=true:=by
 intro H
 induction H with
 |nil=>intro i cs _ h;simp at h
 |cons a H ih=>
  intro i cs h hi
  simp only[lowss,Bool.and_eq_true] at h
  cases i with
  |zero=>simp only[List.getElem?_cons_zero,Option.some.injEq] at hi;subst hi;exact h.1
  |succ i=>simp only[List.getElem?_cons_succ] at hi;exact ih h.2 hi
theorem HInv.take {J:Mem} {ν:List Nat} {HV:List (List Value)} {w:World} {H:Heap} {n:Nat} (h:HInv J ν HV w H) (hl:lowss n (H.take n)=true):HInv J (ν.take n) (HV.take n) w (H.take n):=by
 refine⟨h.imm,by simp [h.l1],by simp [h.l2],?_⟩
 intro id b ws cs h1 h2 h3
 have hlow:=a2V hl h3
 rw[List.getElem?_take] at h1 h2 h3
 split at h1
 ·rename_i hlt
  rw[if_pos hlt] at h2 h3
  obtain⟨a1,a2,a3,a4,a5⟩:=h.ok id b ws cs h1 h2 h3
  exact⟨a1,a2.take_mu hlow,a3,a4,a5⟩
 ·cases h1
theorem TRep.take_mu {I:Mem} {μ:List Nat} {lh:List (Option LCell)} {lv:List LV} {n:Nat} {v:Value} {a:AV} (h:TRep I μ lh lv v a) (hl:a.low n=true):TRep I (μ.take n) lh lv v a:=by
 have key:∀{a:AV},a.low n=true→Rep I μ v a→Rep I (μ.take n) v a:=fun {a} hl h=>h.take_mu (by simp only[lows,Bool.and_true];exact hl)
 cases a<;>first|exact h|exact key hl h
theorem e2g {n:Nat}:∀{l:List AV} {i:Nat} {a:AV},lows n l=true→l[i]? =some a→a.low n=true:=by
 intro l
 induction l with
 |nil=>intro i a _ h;simp at h
 |cons b l ih=>
  intro i a h hi
  simp only[lows,Bool.and_eq_true] at h
  cases i with
  |zero=>simp only[List.getElem?_cons_zero,Option.some.injEq] at hi;subst hi;exact h.1
  |succ i=>simp only[List.getElem?_cons_succ] at hi;exact ih h.2 hi
theorem e2h {n:Nat}:∀{l:List (Option LCell)} {i g:Nat} {cs:List AV},lowL n l=true→l[i]? =some (some (g,cs))→lows n cs=true:=by
 intro l
 induction l with
 |nil=>intro i g cs _ h;simp at h
 |cons b l ih=>
  intro i g cs h hi
  cases i with
  |zero=>
   simp only[List.getElem?_cons_zero,Option.some.injEq] at hi;subst hi
   simp only[lowL,Bool.and_eq_true] at h;exact h.1
  |succ i=>
   simp only[List.getElem?_cons_succ] at hi
   cases b with
   |none=>simp only[lowL] at h;exact ih h hi
   |some c=>obtain⟨g',cs'⟩:=c;simp only[lowL,Bool.and_eq_true] at h;exact ih h.2 hi
theorem DRel.take_mu {I:Mem} {μ:List Nat} {n:Nat}:∀{ds:List Deferred} {asq:List ADef},DRel I μ ds asq→lowD n asq=true→DRel I (μ.take n) ds asq
 |[],[],h,_=>h
 |d::ds,a::asq,h,hl=>by
  simp only[lowD,Bool.and_eq_true] at hl
  obtain⟨cap,h1,h2,h3⟩:=h.1
  exact⟨⟨cap,h1,h2.take_mu hl.1,h3⟩,DRel.take_mu h.2 hl.2⟩
 |[],_::_,h,_=>h.elim
 |_::_,[],h,_=>h.elim
theorem RmOk.take_mu {I:Mem} {μ:List Nat} {n:Nat} {cs0 cs:List Frame} {rm:RM} (h:RmOk I μ cs0 cs rm) (hl:a2O n rm=true):RmOk I (μ.take n) cs0 cs rm:=by
 cases rm with
 |none=>exact h
 |returning=>obtain⟨c,r,u,h1,h2,h3⟩:=h;exact⟨c,r,u,h1,h2,h3⟩
 |panicking v b=>
  obtain⟨c,r,u,h1,h2,x,o,h3,h4,h5⟩:=h
  exact⟨c,r,u,h1,h2,x,o,h3,h4,h5.take_mu (by simp only[lows,Bool.and_true];exact hl)⟩
section
variable {P:Program} {cfg:FuncId→FCfg} {call:FuncId→List AV→RM→Heap→Option CRes} {B:Base} {I J:Mem} {μ ν:List Nat} {HV:List (List Value)} {lh:List (Option LCell)} {lv:List LV} {w w':World} {vs:List Value} {tm:List AV} {H:Heap}
theorem i2v {l m:List Nat} (h:LeN l m) (hl:m.length=l.length):m=l:=by
 apply List.ext_getElem?
 intro i
 rcases Nat.lt_or_ge i l.length with hi|hi
 ·rw[List.getElem?_eq_getElem hi];exact h i _ (List.getElem?_eq_getElem hi)
 ·rw[List.getElem?_eq_none hi,List.getElem?_eq_none (by omega)]
theorem x1m:∀{l:List AV} {t g:Nat},lpOf l=some (t,g)→∃(i off:Nat),l[i]? =some (.lp t g off)
 |[],_,_,h=>by cases h
 |a::l,t,g,h=>by
  cases a with
  |lp t' g' off=>simp only[lpOf,Option.some.injEq,Prod.mk.injEq] at h;obtain⟨rfl,rfl⟩:=h;exact⟨0,off,rfl⟩
  |_=>simp only[lpOf] at h;obtain⟨i,off,hi⟩:=x1m h;exact⟨i+1,off,by simpa using hi⟩
theorem g2R (b:Nat) (v:Value) (t g n:Nat) (a:AV):tc b v (l1z t g n a)=tc b v a:=by
 unfold l1z
 split
 ·split<;>
  ·unfold tc
   cases v with
   |slice x l c=>cases x<;>rfl
   |_=>rfl
 ·rfl
theorem x1n (b t g n:Nat):∀(cargs:List Value) (args:List AV),tcs b cargs (args.map (l1z t g n))=tcs b cargs args
 |[],_=>by simp [zsum]
 |_::_,[]=>by simp [zsum]
 |v::cargs,a::args=>by
  have:=x1n b t g n cargs args
  simp only[tcs] at this
  simp only[List.map_cons,zsum,g2R,this]
theorem a2W {t gen b:Nat} {ws:List Value} {cs:List AV} (hlv:lv[t]? =some (some (b,ws))) (hlh:lh[t]? =some (some (gen,cs))) {v:Value} {a:AV} (h:TRep I μ lh lv v a):
  TRep I (μ++[b]) lh lv v (l1z t gen μ.length a):=by
 have hm:TRep I (μ++[b]) lh lv v a:=h.mono (.refl I) (.append μ [b])
 unfold l1z
 split
 ·rename_i t' g' off
  split
  ·rename_i e
   obtain⟨rfl,rfl⟩:=of_decide_eq_true e
   obtain⟨g2,cs2,b2,ws2,h1,h2,h3,b',h4,h5⟩:=h
   rw[hlh] at h1;rw[hlv] at h2
   simp only[Option.some.injEq,Prod.mk.injEq] at h1 h2
   obtain⟨rfl,rfl⟩:=h1
   obtain⟨rfl,rfl⟩:=h2
   have:=h5 rfl
   subst this
   subst h4
   exact .ptr μ.length off b' (by simp) .nil
  ·exact hm
 ·exact hm
theorem y1k {t gen n:Nat} {cargs:List Value} {args:List AV} (h:AllSpare I w cargs args):AllSpare I w cargs (args.map (l1z t gen n)):=by
 intro i v a hv ha
 rw[List.getElem?_map] at ha
 cases hx:args[i]? with
 |none=>rw[hx] at ha;cases ha
 |some a0=>
  rw[hx] at ha
  simp only[Option.map_some,Option.some.injEq] at ha
  intro b o len cap sz rows hv2 ha2
  rw[ha2] at ha
  unfold l1z at ha
  split at ha
  ·split at ha<;>cases ha
  ·exact h i v a0 hv hx b o len cap sz rows hv2 ha
theorem BlockOk.mono_mu {b:Nat} {ws:List Value} {cs:List AV} (h:BlockOk I μ w b ws cs) (hμ:LeN μ ν):BlockOk I ν w b ws cs:=
 ⟨h.1,h.2.1.mono (.refl I) hμ,h.2.2.1,h.2.2.2.1,h.2.2.2.2⟩
theorem a2X (h:HInv I μ HV w H) {b:Nat} {ws:List Value} {cs:List AV} (hb:BlockOk I μ w b ws cs):HInv I (μ++[b]) (HV++[ws]) w (H++[cs]):=by
 refine⟨h.imm,by simp [h.l1],by simp [h.l2],fun id b' ws' cs' h1 h2 h3=>?_⟩
 rcases Nat.lt_or_ge id H.length with hi|hi
 ·rw[List.getElem?_append_left (by rw[h.l1];exact hi)] at h1
  rw[List.getElem?_append_left (by rw[h.l2];exact hi)] at h2
  rw[List.getElem?_append_left hi] at h3
  exact(h.ok id b' ws' cs' h1 h2 h3).mono_mu (.append μ [b])
 ·rw[List.getElem?_append_right (by rw[h.l1];exact hi)] at h1
  rw[List.getElem?_append_right (by rw[h.l2];exact hi)] at h2
  rw[List.getElem?_append_right hi] at h3
  have e:id=H.length:=by
   have:=List.getElem?_eq_some_iff.1 h3
   obtain⟨hlt,_⟩:=this
   simp at hlt;omega
  subst e
  simp only[h.l1,h.l2,Nat.sub_self,List.getElem?_cons_zero,Option.some.injEq] at h1 h2 h3
  subst h1 h2 h3
  exact hb.mono_mu (.append μ [_])
theorem OutRel.take_mu {out:Out} {e:Ending} {n:Nat} (h:OutRel J ν w' out e) (hl:out.low n=true):OutRel J (ν.take n) w' out e:=by
 cases out with
 |ret v=>obtain⟨v',h1,h2,h3⟩:=h;exact⟨v',h1,h2.take_mu (by simp only[lows,Bool.and_true];exact hl),h3⟩
 |panic v=>obtain⟨ch,h1,u,older,h2,h3,h4⟩:=h;exact⟨ch,h1,u,older,h2,h3,h4.take_mu (by simp only[lows,Bool.and_true];exact hl)⟩
theorem y1l (h:FInv I μ HV lv w vs tm lh H) {xs:List Operand} {ms:List Bool} (hn:(a1q xs ms).Nodup) {t gen b:Nat} {ws:List Value} {cs:List AV} (hlv:lv[t]? =some (some (b,ws))) (hlh:lh[t]? =some (some (gen,cs)))
  {cargs:List Value} {args:List AV} {out:Out} {H':Heap} {HV':List (List Value)} {e:Ending} {cs':List AV}
  (hargs:∀b',tcs b' cargs args≤tcs b' (xs.map (b1f vs)) (vals tm xs ms)) (hp:CPost I (μ++[b]) (HV++[ws]) w (H++[cs]) cargs args out H' J ν HV' e w') (hH:H'.drop H.length=[cs']) (hlow1:lows H.length cs'=true) (hlow:lowss H.length (H'.take H.length)=true) (hout:out.low H.length=true):
  ∃HV1 ws',FInv J μ HV1 (lv.set t (some (b,ws'))) w' vs (disT tm xs ms) (lh.set t (some (gen,cs'))) (H'.take H.length)∧Eff I w (fun b=>0<tok μ HV H lv lh vs tm b) J w'∧OutRel J μ w' out e∧
   (∀b',tok μ HV1 (H'.take H.length) (lv.set t (some (b,ws'))) (lh.set t (some (gen,cs'))) vs (disT tm xs ms) b'+d1d b' out e≤1)∧
   (∀b',0<tok μ HV1 (H'.take H.length) (lv.set t (some (b,ws'))) (lh.set t (some (gen,cs'))) vs (disT tm xs ms) b'+d1d b' out e→0<tok μ HV H lv lh vs tm b'∨w.heap.size≤b'):=by
 have hd:=h.dis xs ms hn
 have htd:=fun b'=>g1T h xs ms hn b'
 have htm:∀b',tok μ HV H lv lh vs tm b'≤1:=fun b'=>h.one b'
 have hl1:=h.h.l1
 have hl2:=h.h.l2
 have hlen:H'.length=H.length+1:=by have:=congrArg List.length hH;simp at this;omega
 have hν:ν=μ++[b]:=i2v hp.mu (by rw[hp.h.l1,hlen];simp [hl1])
 have hν1:ν.take H.length=μ:=by rw[hν,←hl1];simp
 obtain⟨ws',hws'⟩:∃ws',HV'.drop H.length=[ws']:=by
  have hl:(HV'.drop H.length).length=1:=by simp [hp.h.l2,hlen]
  cases hx:HV'.drop H.length with
  |nil=>rw[hx] at hl;cases hl
  |cons a l=>rw[hx] at hl;cases l with
   |nil=>exact⟨a,rfl⟩
   |cons=>simp at hl
 have eH:H'=H'.take H.length++[cs']:=by rw[←hH,List.take_append_drop]
 have eV:HV'=HV'.take H.length++[ws']:=by rw[←hws',List.take_append_drop]
 have hcs:H'[H.length]? =some cs':=by have:=congrArg (fun l=>l[0]?) hH;simpa using this
 have hwsn:HV'[H.length]? =some ws':=by have:=congrArg (fun l=>l[0]?) hws';simpa using this
 have hνn:ν[H.length]? =some b:=by rw[hν,←hl1];simp
 have hbl:BlockOk J ν w' b ws' cs':=hp.h.ok _ _ _ _ hνn hwsn hcs
 have hbl':BlockOk J μ w' b ws' cs':=by
  refine⟨hbl.1,?_,hbl.2.2.1,hbl.2.2.2.1,hbl.2.2.2.2⟩
  have:=hbl.2.1.take_mu (n:=H.length) hlow1
  rwa [hν1] at this
 have hh:HInv J μ (HV'.take H.length) w' (H'.take H.length):=by
  have:=hp.h.take (n:=H.length) hlow
  rwa [hν1] at this
 have cb:∀b',(μ++[b]).count b'=μ.count b'+(if b=b' then 1 else 0):=fun b'=>by
  rw[List.count_append,List.count_singleton];simp
 have hll:=h.ll
 have hz0:∀b',zsum (lc b') (lv.set t none) (lh.set t none)+lc b' (some (b,ws)) (some (gen,cs))=zsum (lc b') lv lh:=fun b'=>by
  have:=e1U (lc b') hll hlv hlh (a':=none) (b':=none)
  have e:lc b' none none=0:=rfl
  omega
 have hz1:∀b',zsum (lc b') (lv.set t (some (b,ws'))) (lh.set t (some (gen,cs')))=zsum (lc b') (lv.set t none) (lh.set t none)+lc b' (some (b,ws')) (some (gen,cs')):=fun b'=>by
  have h1:=e1U (lc b') hll hlv hlh (a':=none) (b':=none)
  have h2:=e1U (lc b') hll hlv hlh (a':=some (b,ws')) (b':=some (gen,cs'))
  have e:lc b' none none=0:=rfl
  omega
 have hlc:∀b' (u:List Value) (g:Nat) (c:List AV),lc b' (some (b,u)) (some (g,c))=(if b=b' then 1 else 0)+tcs b' u c:=fun _ _ _ _=>rfl
 have hargT:∀b',c1E (μ++[b]) (HV++[ws]) (H++[cs]) cargs args b'=μ.count b'+tcss b' HV H+lc b' (some (b,ws)) (some (gen,cs))+tcs b' cargs args:=fun b'=>by
  have e:=c1T (tcs b') (l:=HV) (l':=[ws]) (m:=H) (m':=[cs]) hl2
  simp only[zsum,Nat.add_zero] at e
  unfold c1E
  rw[cb,hlc]
  simp only[tcss]
  omega
 have hz:∀b',0<c1E (μ++[b]) (HV++[ws]) (H++[cs]) cargs args b'→zsum (lc b') (lv.set t none) (lh.set t none)=0∧tcs b' vs (disT tm xs ms)=0:=fun b' hb=>by
  have h1:=htd b';have h2:=htm b';have h3:=hargs b';have h4:=hz0 b'
  rw[hargT] at hb
  unfold tok at h1 h2;omega
 have hsum:∀b',tok μ (HV'.take H.length) (H'.take H.length) (lv.set t (some (b,ws'))) (lh.set t (some (gen,cs'))) vs (disT tm xs ms) b'+d1d b' out e=ν.count b'+tcss b' HV' H'+d1d b' out e+zsum (lc b') (lv.set t none) (lh.set t none)+tcs b' vs (disT tm xs ms):=fun b'=>by
  have e:=c1T (tcs b') (l:=HV'.take H.length) (l':=[ws']) (m:=H'.take H.length) (m':=[cs']) (by simp [hp.h.l2])
  simp only[zsum,Nat.add_zero] at e
  rw[←eV,←eH] at e
  have e1:=hz1 b'
  rw[hlc] at e1
  unfold tok
  rw[hν,cb]
  simp only[tcss]
  omega
 have hone:∀b',tok μ (HV'.take H.length) (H'.take H.length) (lv.set t (some (b,ws'))) (lh.set t (some (gen,cs'))) vs (disT tm xs ms) b'+d1d b' out e≤1:=fun b'=>by
  rw[hsum]
  have h1:=hp.one b'
  by_cases h0:ν.count b'+tcss b' HV' H'+d1d b' out e=0
  ·have h2:=htd b';have h3:=htm b';have h4:=hz0 b';unfold tok at *;omega
  ·have h2:zsum (lc b') (lv.set t none) (lh.set t none)=0∧tcs b' vs (disT tm xs ms)=0:=by
    rcases hp.tok b' (by omega) with h3|h3
    ·exact hz b' h3
    ·have:=x1w hd (b:=b') (by omega);have h4:=hz0 b';unfold tok at this;omega
   omega
 have hlo0:∀(t':Nat) d c,(lv.set t none)[t']? =some d→(lh.set t none)[t']? =some c→p1q I μ w d c:=by
  intro t' d c h1 h2
  by_cases ht:t=t'
  ·subst ht
   rw[List.getElem?_set] at h1 h2
   have q1:=(List.getElem?_eq_some_iff.1 hlv).1
   have q2:=(List.getElem?_eq_some_iff.1 hlh).1
   simp only[if_true,q1,q2,Option.some.injEq] at h1 h2
   subst h1 h2
   trivial
  ·rw[List.getElem?_set_ne ht] at h1 h2
   exact h.lo t' d c h1 h2
 have hlo1:=m1O hlo0 hp.eff (LeN.refl μ) fun b' hb=>(hz b' hb).1
 refine⟨HV'.take H.length,ws',⟨hh,⟨hd.tms.1,fun i v a hv ha=>?_⟩,hd.sp.eff hp.eff fun b' hb=>(hz b' hb).2,by simp [hll],?_,fun b'=>?_⟩,hp.eff.mono fun b' hb=>?_,by have:=hp.outr.take_mu hout;rwa [hν1] at this,hone,fun b' hb=>?_⟩
 ·have hr:=(hd.tms.2 i v a hv ha).mono hp.eff.le (LeN.refl μ)
  cases a with
  |lp t' g' off=>
   obtain⟨g2,cs2,b2,ws2,h1,h2,h3,b',h4,h5⟩:=hr
   by_cases ht:t=t'
   ·subst ht
    rw[hlh] at h1;rw[hlv] at h2
    simp only[Option.some.injEq,Prod.mk.injEq] at h1 h2
    obtain⟨rfl,rfl⟩:=h1
    obtain⟨rfl,rfl⟩:=h2
    have q1:=(List.getElem?_eq_some_iff.1 hlv).1
    have q2:=(List.getElem?_eq_some_iff.1 hlh).1
    exact⟨gen,cs',b,ws',by rw[List.getElem?_set];simp [q2],by rw[List.getElem?_set];simp [q1],h3,b',h4,h5⟩
   ·exact⟨g2,cs2,b2,ws2,by rw[List.getElem?_set_ne ht];exact h1,by rw[List.getElem?_set_ne ht];exact h2,h3,b',h4,h5⟩
  |_=>exact hr
 ·intro t' d c h1 h2
  by_cases ht:t=t'
  ·subst ht
   have q1:=(List.getElem?_eq_some_iff.1 hlv).1
   have q2:=(List.getElem?_eq_some_iff.1 hlh).1
   rw[List.getElem?_set] at h1 h2
   simp only[if_true,q1,q2,Option.some.injEq] at h1 h2
   subst h1 h2
   exact hbl'
  ·rw[List.getElem?_set_ne ht] at h1 h2
   exact hlo1 t' d c (by rw[List.getElem?_set_ne ht];exact h1) (by rw[List.getElem?_set_ne ht];exact h2)
 ·have:=hone b';unfold tok at this;omega
 ·have h1:=htd b';have h3:=hargs b';have h4:=hz0 b';rw[hargT] at hb;unfold tok at *;omega
 ·rw[hsum] at hb
  by_cases h0:ν.count b'+tcss b' HV' H'+d1d b' out e=0
  ·left;have h1:=htd b';have h4:=hz0 b';unfold tok at *;omega
  ·rcases hp.tok b' (by omega) with h3|h3
   ·left;have h1:=htd b';have h4:=hargs b';have h5:=hz0 b';rw[hargT] at h3;unfold tok at *;omega
   ·exact .inr h3
theorem o1I (hcall:CallSound P B.I call) {s:St} {a:Act} {cs:List Frame} (h:Good B s a cs w I μ HV lv) {f:FuncId} {o:Oper} {r:SR} (hr:g1Z cfg call f o s=some r)
  {b:Frame} {ops:Array Oper} {i:Nat} {rest:List Nat} {k:List Item} (ho:ops[i]? =some o):
  SRel P B r (lone (b.at a (.inRegion ops (i::rest)::k)) cs w) b ops rest k:=by
 unfold g1Z at hr
 split at hr
 ·cases hr
 ·rename_i e0
  simp only[Bool.and_eq_true,decide_eq_true_eq,Option.isNone_iff_eq_none] at e0
  obtain⟨hn,hgd⟩:=e0
  have hw:Region.wanted o (yielded ops a.tmps)=true:=h1G h (ops:=ops) (o:=o) (r:=true) (by unfold e1n;rw[hgd])
  have hev:=a2R a
  split at hr
  ·rename_i c hop
   split at hr
   ·rename_i x g first captured args hc hvs
    split at hr
    ·cases hr
    ·rename_i t gen hlp
     split at hr
     ·rename_i gen' cells hlh
      split at hr
      ·cases hr
      ·rename_i hg
       have hg:=of_decide_eq_true hg
       subst hg
       split at hr
       ·cases hr
       ·rename_i hany
        split at hr
        ·rename_i res hcl
         have hv:=l1Y h.inv.tms o.op.operands.toList (b1v cfg f o)
         have hsp:=i1y h.inv.tms h.inv.sp o.op.operands.toList (b1v cfg f o)
         have htd:=fun b'=>g1T h.inv o.op.operands.toList (b1v cfg f o) hn b'
         have hops:o.op.operands.toList=x::c.args.toList:=by simp [hop,Op.operands,Call.operands,hc]
         have hv':=hv
         have hsp':=hsp
         have hvs':vals s.tmps o.op.operands.toList (b1v cfg f o)=.func (.func g) first captured::args:=hvs
         rw[hvs',hops] at hv' hsp'
         simp only[List.map_cons] at hv' hsp'
         obtain⟨j,off,hj⟩:=x1m hlp
         have hargsR:=hv'.uncons.2
         obtain⟨vj,hvj⟩:∃vj,(c.args.toList.map (b1f a.tmps.toList))[j]? =some vj:=by
          have:=(List.getElem?_eq_some_iff.1 hj).1
          rw[←hargsR.1] at this
          exact⟨_,List.getElem?_eq_getElem this⟩
         obtain⟨g2,cs2,b2,ws,q1,q2,_⟩:=hargsR.2 j _ _ hvj hj
         rw[hlh] at q1
         simp only[Option.some.injEq,Prod.mk.injEq] at q1
         obtain⟨rfl,rfl⟩:=q1
         have hblk:BlockOk I μ w b2 ws cells:=h.inv.lo t _ _ q2 hlh
         have hl1:=h.inv.h.l1
         have hv2:TRepL I (μ++[b2]) s.lh lv (b1f a.tmps.toList x::c.args.toList.map (b1f a.tmps.toList)) (.func (.func g) first captured::args.map (l1z t gen s.g.H.length)):=by
          refine⟨by have:=hv'.1;simpa using this,fun i v u hi hu=>?_⟩
          cases i with
          |zero=>
           simp only[List.getElem?_cons_zero,Option.some.injEq] at hi hu
           subst hi hu
           exact hv'.uncons.1.mono (.refl I) (.append μ [b2])
          |succ i=>
           simp only[List.getElem?_cons_succ] at hi hu
           rw[List.getElem?_map] at hu
           cases hx:args[i]? with
           |none=>rw[hx] at hu;cases hu
           |some u0=>
            rw[hx] at hu
            simp only[Option.map_some,Option.some.injEq] at hu
            subst hu
            rw[←hl1]
            exact a2W q2 hlh (hargsR.2 i v u0 hi hx)
         have hsp2:AllSpare I w (b1f a.tmps.toList x::c.args.toList.map (b1f a.tmps.toList)) (.func (.func g) first captured::args.map (l1z t gen s.g.H.length)):=by
          intro i v u hi hu
          cases i with
          |zero=>exact hsp' 0 v u hi hu
          |succ i=>exact y1k (fun i v u hi hu=>hsp' (i+1) v u hi hu) i v u hi hu
         obtain⟨cf,cc,z1,z2,z3,z4⟩:=o1E hv2 hsp2 hany
         have htc:∀b',tcs b' (cf.toList++c.args.toList.map (b1f a.tmps.toList)++cc.toList) (g1g t gen s.g.H.length first args captured)≤tcs b' (o.op.operands.toList.map (b1f a.tmps.toList)) (vals s.tmps o.op.operands.toList (b1v cfg f o)):=fun b'=>by
          have e1:=z4 b'
          have e2:=x1n b' t gen s.g.H.length (c.args.toList.map (b1f a.tmps.toList)) args
          rw[hvs',hops]
          simp only[tcs,List.map_cons,zsum] at e1 e2⊢
          unfold g1g
          omega
         have hone:∀b',c1E (μ++[b2]) (HV++[ws]) (s.g.H++[cells]) (cf.toList++c.args.toList.map (b1f a.tmps.toList)++cc.toList) (g1g t gen s.g.H.length first args captured) b'≤1:=fun b'=>by
          have e1:=c1T (tcs b') (l:=HV) (l':=[ws]) (m:=s.g.H) (m':=[cells]) h.inv.h.l2
          have e2:=g1H (lc b') q2 hlh
          have e3:lc b' (some (b2,ws)) (some (gen,cells))=(if b2=b' then 1 else 0)+tcs b' ws cells:=rfl
          have e4:=htc b';have e5:=htd b';have e6:=h.inv.one b'
          have e7:(μ++[b2]).count b'=μ.count b'+(if b2=b' then 1 else 0):=by rw[List.count_append,List.count_singleton];simp
          simp only[zsum,Nat.add_zero] at e1
          unfold c1E
          unfold Eng.tok at e5
          simp only[tcss,tcs] at *
          omega
         obtain⟨⟨fn,body,hf,hbd,hng⟩,hcalls⟩:=hcall g _ .none _ _ hcl I (μ++[b2]) (HV++[ws]) w _ h.eff.le (a2X h.inv.h hblk) z2 z3 hone
         simp only at hcalls
         have hrun:=r1N (P:=P) (o:=o) hop hc (ρ:=a.eval) (by rw[hev];exact z1) hf hbd hng w
         have hca:cf++c.args.map a.eval++cc=(cf.toList++c.args.toList.map (b1f a.tmps.toList)++cc.toList).toArray:=by
          apply Array.ext';simp [hev]
         rw[hca] at hrun
         obtain⟨e,w',⟨J,ν,HV',hp⟩,hst⟩:=j1R (P:=P) (b:=b) (k:=k) (cs:=cs) (rest:=rest) ho hw hrun hcalls (by
          rintro w' ⟨J,ν,HV',hp⟩
          have:=hp.outr
          revert this
          cases res.out with
          |ret v=>rintro ⟨v',hv',_⟩;cases hv'
          |panic v=>rintro ⟨v',hv',_⟩;cases hv')
         unfold i1s at hr
         split at hr
         ·rename_i cells' hdrop
          split at hr
          ·rename_i hlow
           simp only[Bool.and_eq_true] at hlow
           obtain⟨HV1,ws',f1,f2,f3,f4,f5⟩:=y1l h.inv hn q2 hlh htc hp hdrop hlow.2.1 hlow.2.2 hlow.1
           split at hr
           ·rename_i v1 hout
            simp only[Option.some.injEq] at hr;subst hr
            rw[hout] at f3 f4 f5
            obtain⟨v',rfl,hrep,hspr⟩:=f3
            simp only[d1d] at f4 f5
            have h3:=f1.put o.dst (v:=v') (r:=v1) (.of hrep) hspr f4
            refine⟨a.put o.dst v',cs,w',J,μ,HV1,lv.set t (some (b2,ws')),⟨?_,?_,h.rm.mono f2.le (.refl μ),h.dk,h.eff.trans f2 h.tk,fun b' hb'=>?_,h.mu,h.bs⟩,hst⟩
            ·simp only[f1w];exact h3
            ·rw[f1U];exact h.df.mono f2.le (.refl μ)
            ·simp only[f1w] at hb'
             have t1:=c1R (μ:=μ) (HV:=HV1) (H:=res.H.take s.g.H.length) (lv:=lv.set t (some (b2,ws'))) (lh:=s.lh.set t (some (gen,cells'))) f1.tms.1 o.dst v' v1 b'
             rcases f5 b' (by omega) with h1|h1
             ·exact h.tk b' h1
             ·exact .inr (Nat.le_trans h.eff.size h1)
           ·rename_i v1 hout
            simp only[Option.some.injEq] at hr;subst hr
            rw[hout] at f3 f4 f5
            obtain⟨chain,rfl,hch⟩:=f3
            simp only[d1d] at f4 f5
            refine⟨a,cs,w',J,μ,HV1,lv.set t (some (b2,ws')),chain,⟨f1,h.df.mono f2.le (.refl μ),h.rm.mono f2.le (.refl μ),h.dk,h.eff.trans f2 h.tk,fun b' hb'=>?_,h.mu,h.bs⟩,hch,hst⟩
            rcases f5 b' (by simpa using hb') with h1|h1
            ·exact h.tk b' h1
            ·exact .inr (Nat.le_trans h.eff.size h1)
          ·cases hr
         ·cases hr
        ·cases hr
     ·cases hr
   ·cases hr
  ·cases hr
end
end Go.Eng
end

section
/-
  THE ENGINE, part 14: code.
-/
set_option linter.unusedVariables false
set_option linter.unusedSimpArgs false
namespace Go.Eng
section
variable {P:Program} {cfg:FuncId→FCfg} {call:FuncId→List AV→RM→Heap→Option CRes} {B:Base} {I J:Mem} {μ ν:List Nat}
theorem j1S (m:Nat):∀(l:List AV) (i j:Nat),(b1K m i l)[j]? =(l[j]?).map fun v=>if m.testBit (i+j) then v else .any
 |[],i,j=>by simp [b1K]
 |v::r,i,0=>by simp [b1K]
 |v::r,i,j+1=>by
  simp only[b1K,List.getElem?_cons_succ]
  rw[j1S m r (i+1) j,show i+1+j=i+(j+1) by omega]
theorem j1T (m:Nat):∀(l:List AV) (i:Nat),(b1K m i l).length=l.length
 |[],i=>rfl
 |v::r,i=>by simp [b1K,j1T m r]
theorem m1w (m:Nat):∀(l:List (Option LCell)) (i j:Nat),(e1a m i l)[j]? =(l[j]?).map fun v=>if m.testBit (i+j) then v else none
 |[],i,j=>by simp [e1a]
 |v::r,i,0=>by simp [e1a]
 |v::r,i,j+1=>by
  simp only[e1a,List.getElem?_cons_succ]
  rw[m1w m r (i+1) j,show i+1+j=i+(j+1) by omega]
theorem l1E (m:Nat):∀(l:List (Option LCell)) (i:Nat),(e1a m i l).length=l.length
 |[],i=>rfl
 |v::r,i=>by simp [e1a,l1E m r]
def j1A (m:Nat):Nat→List LV→List LV
 |_,[]=>[]
 |i,c::r=>(if m.testBit i then c else none)::j1A m (i+1) r
theorem m1x (m:Nat):∀(l:List LV) (i j:Nat),(j1A m i l)[j]? =(l[j]?).map fun v=>if m.testBit (i+j) then v else none
 |[],i,j=>by simp [j1A]
 |v::r,i,0=>by simp [j1A]
 |v::r,i,j+1=>by
  simp only[j1A,List.getElem?_cons_succ]
  rw[m1x m r (i+1) j,show i+1+j=i+(j+1) by omega]
theorem l1F (m:Nat):∀(l:List LV) (i:Nat),(j1A m i l).length=l.length
 |[],i=>rfl
 |v::r,i=>by simp [j1A,l1F m r]
theorem k1R (m b:Nat):∀(vs:List Value) (tm:List AV) (i:Nat),tcs b vs (b1K m i tm)≤tcs b vs tm
 |[],_,_=>by simp [zsum]
 |v::vs,[],_=>by simp [b1K,zsum]
 |v::vs,a::tm,i=>by
  have:=k1R m b vs tm (i+1)
  simp only[b1K,zsum,tcs] at *
  have h2:tc b v (if m.testBit i=true then a else .any)≤tc b v a:=by
   split
   ·exact Nat.le_refl _
   ·have:tc b v .any=0:=by unfold tc;split<;>simp_all
    omega
  omega
theorem m1y (m b:Nat):∀(lv:List LV) (lh:List (Option LCell)) (i:Nat),zsum (lc b) (j1A m i lv) (e1a m i lh)≤zsum (lc b) lv lh
 |[],_,_=>by simp [j1A,zsum]
 |v::vs,[],_=>by simp [e1a,j1A,zsum]
 |v::vs,a::tm,i=>by
  have:=m1y m b vs tm (i+1)
  simp only[j1A,e1a,zsum] at *
  have h2:lc b (if m.testBit i=true then v else none) (if m.testBit i=true then a else none)≤lc b v a:=by
   split
   ·exact Nat.le_refl _
   ·exact Nat.zero_le _
  omega
theorem o1G {s:St} {a:Act} {cs:List Frame} {w:World} {HV:List (List Value)} {lv:List LV} (h:Good B s a cs w I μ HV lv) {m:Nat} (hall:(b1K m 0 s.tmps).all (lpIn m)=true):
  ∃lv',Good B {s with tmps:=b1K m 0 s.tmps,lh:=e1a m 0 s.lh} a cs w I μ HV lv':=by
 refine⟨j1A m 0 lv,⟨⟨h.inv.h,⟨by rw[j1T];exact h.inv.tms.1,?_⟩,?_,by rw[l1F,l1E];exact h.inv.ll,?_,?_⟩,h.df,h.rm,h.dk,h.eff,?_,h.mu,h.bs⟩⟩
 ·intro i v x hv hx
  have hx0:=hx
  rw[j1S] at hx
  cases hy:s.tmps[i]? with
  |none=>simp [hy] at hx
  |some y=>
   simp only[hy,Option.map_some,Option.some.injEq] at hx
   by_cases hb:m.testBit (0+i)=true
   ·rw[if_pos hb] at hx;subst hx
    have h1:=h.inv.tms.2 i v y hv hy
    cases y with
    |lp t g off=>
     obtain⟨g',cs1,b1,ws1,e1,e2,e3,e4⟩:=h1
     have hl:=List.all_eq_true.1 hall _ (List.mem_of_getElem? hx0)
     simp only[lpIn] at hl
     exact⟨g',cs1,b1,ws1,by rw[m1w,e1];simp [hl],by rw[m1x,e2];simp [hl],e3,e4⟩
    |_=>exact h1
   ·rw[if_neg hb] at hx;subst hx;exact .any _ .nil
 ·intro i v x hv hx
  rw[j1S] at hx
  cases hy:s.tmps[i]? with
  |none=>simp [hy] at hx
  |some y=>
   simp only[hy,Option.map_some,Option.some.injEq] at hx
   by_cases hb:m.testBit (0+i)=true
   ·rw[if_pos hb] at hx;subst hx;exact h.inv.sp i v y hv hy
   ·rw[if_neg hb] at hx;subst hx;intro _ _ _ _ _ _ _ h;cases h
 ·intro t d c hd hc
  rw[m1x] at hd
  rw[m1w] at hc
  cases hd0:lv[t]? with
  |none=>simp [hd0] at hd
  |some d0=>
   cases hc0:s.lh[t]? with
   |none=>simp [hc0] at hc
   |some c0=>
    simp only[hd0,hc0,Option.map_some,Option.some.injEq] at hd hc
    by_cases hb:m.testBit (0+t)=true
    ·rw[if_pos hb] at hd hc;subst hd hc;exact h.inv.lo t d0 c0 hd0 hc0
    ·rw[if_neg hb] at hd hc;subst hd hc;trivial
 ·intro b
  have h1:=h.inv.one b
  have h2:=k1R m b a.tmps.toList s.tmps 0
  have h3:=m1y m b lv s.lh 0
  simp only
  omega
 ·intro b hb
  have h2:=k1R m b a.tmps.toList s.tmps 0
  have h3:=m1y m b lv s.lh 0
  refine h.tk b ?_
  unfold tok at *
  simp only at hb
  omega
theorem a2U {s:St} {a:Act} {cs:List Frame} {w:World} {HV:List (List Value)} {lv:List LV} (h:Good B s a cs w I μ HV lv):∃μ' HV',Good B (v1x s) a cs w I μ' HV' lv:=by
 unfold v1x
 split
 ·exact⟨_,_,h⟩
 ·split
  ·rename_i hl
   unfold v1w at hl
   simp only[Bool.and_eq_true] at hl
   obtain⟨l1,l2,l3,l4,l5⟩:=hl
   have le:∀b,(μ.take s.g.base).count b+tcss b (HV.take s.g.base) (s.g.H.take s.g.base)≤μ.count b+tcss b HV s.g.H:=by
    intro b
    have h1:=q1Z b μ s.g.base
    have h2:tcss b (HV.take s.g.base) (s.g.H.take s.g.base)≤tcss b HV s.g.H:=o1H _ s.g.base _ _
    omega
   refine⟨μ.take s.g.base,HV.take s.g.base,⟨h.inv.h.take l5,⟨h.inv.tms.1,fun i v a hv ha=>(h.inv.tms.2 i v a hv ha).take_mu (e2g l1 ha)⟩,h.inv.sp,h.inv.ll,?_,?_⟩,h.df.take_mu l3,h.rm.take_mu l4,h.dk,h.eff,?_,?_,h.bs⟩
   ·intro t d c hd hc
    have:=h.inv.lo t d c hd hc
    unfold p1q at this⊢
    split
    ·obtain⟨a1,a2,a3,a4,a5⟩:=this
     exact⟨a1,a2.take_mu (e2h l2 hc),a3,a4,a5⟩
    ·trivial
    ·rename_i n1 n2
     split at this
     ·exact absurd rfl (n1 _ _ _ _ rfl)
     ·exact absurd rfl (n2 rfl)
     ·exact this
   ·intro b
    have h1:=h.inv.one b
    have h2:=le b
    simp only
    omega
   ·intro b hb
    refine h.tk b ?_
    have h2:=le b
    unfold tok at *
    simp only at hb
    omega
   ·intro i b hi
    have hlt:i<s.g.base:=by rw[h.bs];exact(List.getElem?_eq_some_iff.1 hi).1
    rw[List.getElem?_take,if_pos hlt]
    exact h.mu i b hi
  ·exact⟨_,_,h⟩
theorem q1Y {s s':St} {a:Act} {cs:List Frame} {w:World} {HV:List (List Value)} {lv:List LV} (h:Good B s a cs w I μ HV lv) {live:Option Nat} (hm:f1u live s=some s'):
  ∃lv' μ' HV',Good B s' a cs w I μ' HV' lv':=by
 unfold f1u at hm
 split at hm
 ·simp only[Option.some.injEq] at hm;subst hm;exact⟨lv,μ,HV,h⟩
 ·rename_i m
  split at hm
  ·rename_i hall
   obtain⟨lv',h1⟩:=o1G h hall
   split at hm
   ·simp only[Option.some.injEq] at hm;subst hm
    obtain⟨μ',HV',h2⟩:=a2U h1
    exact⟨lv',μ',HV',h2⟩
   ·simp only[Option.some.injEq] at hm;subst hm;exact⟨lv',μ,HV,h1⟩
  ·cases hm
theorem t1E {s:St} {a:Act} {cs:List Frame} {w:World} {HV:List (List Value)} {lv:List LV} (h:Good B s a cs w I μ HV lv):Good B s a cs {w with drawn:=w.drawn+1} I μ HV lv:=by
 have he:Eff I w (fun _=>False) I {w with drawn:=w.drawn+1}:=⟨.refl I,fun _ _ _ h=>.inl h,fun _ _ _=>rfl,Nat.le_refl _,rfl,rfl,rfl⟩
 have hI:ImmOk I {w with drawn:=w.drawn+1}:=fun b o v hv=>h.inv.h.imm b o v hv
 exact⟨h.inv.eff he hI (fun _ h=>h.elim),h.df,h.rm,h.dk,h.eff.trans he (fun _ h=>h.elim),h.tk,h.mu,h.bs⟩
def CRel (P:Program) (B:Base) (x:AX) (s':St) (m:Machine) (b:Frame) (k:List Item):Prop:=
 match x with
 | .normal=>∃a' cs' w' I' μ' HV' lv',Good B s' a' cs' w' I' μ' HV' lv'∧Steps P m (lone (b.at a' k) cs' w')
 | .exit id=>∃a' cs' w' I' μ' HV' lv',Good B s' a' cs' w' I' μ' HV' lv'∧∀k',exitTo id k=some k'→Steps P m (lone (b.at a' k') cs' w')
 | .ret=>∃a' cs' w' I' μ' HV' lv' todo,Good B s' a' cs' w' I' μ' HV' lv'∧Steps P m (lone {b.at a' todo with mode:=.returning} cs' w')
 | .panic v=>l1C P B v s' m b k
theorem CRel.of_steps {x:AX} {s':St} {m m1:Machine} {b:Frame} {k:List Item} (hs:Steps P m m1) (h:CRel P B x s' m1 b k):CRel P B x s' m b k:=by
 cases x with
 |normal=>obtain⟨a',cs',w',I',μ',HV',lv',h1,h2⟩:=h;exact⟨a',cs',w',I',μ',HV',lv',h1,hs.trans h2⟩
 |exit id=>obtain⟨a',cs',w',I',μ',HV',lv',h1,h2⟩:=h;exact⟨a',cs',w',I',μ',HV',lv',h1,fun k' hk=>hs.trans (h2 k' hk)⟩
 |ret=>obtain⟨a',cs',w',I',μ',HV',lv',todo,h1,h2⟩:=h;exact⟨a',cs',w',I',μ',HV',lv',todo,h1,hs.trans h2⟩
 |panic v=>obtain⟨a',cs',w',I',μ',HV',lv',ch,h1,h2,h3⟩:=h;exact⟨a',cs',w',I',μ',HV',lv',ch,h1,h2,.of_steps hs h3⟩
theorem CRel.pass {x:AX} {s':St} {m:Machine} {b:Frame} {it:Item} {k:List Item} (hi:∀id k',exitTo id k=some k'→exitTo id (it::k)=some k') (hx:x≠ .normal) (h:CRel P B x s' m b (it::k)):CRel P B x s' m b k:=by
 cases x with
 |normal=>exact absurd rfl hx
 |exit id=>obtain⟨a',cs',w',I',μ',HV',lv',h1,h2⟩:=h;exact⟨a',cs',w',I',μ',HV',lv',h1,fun k' hk=>h2 k' (hi id k' hk)⟩
 |ret=>exact h
 |panic v=>obtain⟨a',cs',w',I',μ',HV',lv',ch,h1,h2,h3⟩:=h;exact⟨a',cs',w',I',μ',HV',lv',ch,h1,h2,h3⟩
theorem r1O {x:AX} {s':St} {m:Machine} {b:Frame} {ops:Array Oper} {k:List Item} (h:(x=.normal∧Goes P B s' m b ops [] k)∨∃v,x=.panic v∧l1C P B v s' m b k):CRel P B x s' m b k:=by
 rcases h with ⟨rfl,a',cs',w',I',μ',HV',lv',h1,h2⟩|⟨v,rfl,h⟩
 ·exact⟨a',cs',w',I',μ',HV',lv',h1,h2.trans (.one step_region_end)⟩
 ·exact h
theorem g1G:∀(l:List AV) (i:Nat),b1K 0 i l=List.replicate l.length .any
 |[],i=>rfl
 |v::l,i=>by simp [b1K,g1G l,List.replicate_succ]
theorem k1S:∀(l:List (Option LCell)) (i:Nat),e1a 0 i l=List.replicate l.length none
 |[],i=>rfl
 |v::l,i=>by simp [e1a,k1S l,List.replicate_succ]
theorem v1D {v:AV} {u s:St} {m:Machine} {b:Frame} {k:List Item} (h:l1C P B v u m b k) (hg:u.g=s.g) (hl:d1N s u):l1C P B v (g1Y s) m b k:=by
 obtain⟨a',cs',w',I',μ',HV',lv',ch,h1,h2,h3⟩:=h
 obtain⟨lv2,h4⟩:=o1G h1 (m:=0) (by rw[g1G];simp [lpIn])
 have e:g1Y s={u with tmps:=b1K 0 0 u.tmps,lh:=e1a 0 0 u.lh}:=by
  unfold g1Y
  rw[g1G,g1G,k1S,k1S,hl.1,hl.2,hg]
 rw[e]
 exact⟨a',cs',w',I',μ',HV',lv2,ch,h4,h2,h3⟩
theorem y1j (hcall:CallSound P B.I call) {f:FuncId} {ops:Array Oper} {s:St} {x:AX} {s':St} (hr:l1A P cfg call f ops s=some (x,s'))
  {a:Act} {cs:List Frame} {w:World} {I:Mem} {μ:List Nat} {HV:List (List Value)} {lv:List LV} (h:Good B s a cs w I μ HV lv) {b:Frame} {k:List Item} (hb:B.dk=true→b.kind=.deferred):
   (x=.normal∧Goes P B s' (lone (b.at a (.inRegion ops (List.range ops.size)::k)) cs w) b ops [] k)∨∃v,x=.panic v∧l1C P B v s' (lone (b.at a (.inRegion ops (List.range ops.size)::k)) cs w) b k:=by
 have hrange:∀{o:Oper},ops[ops.size-1]? =some o→List.range ops.size=List.range (ops.size-1)++[ops.size-1]:=by
  intro o ho
  have hlt:=(Array.getElem?_eq_some_iff.1 ho).1
  have e:ops.size=(ops.size-1)+1:=by omega
  conv=>lhs;rw[e]
  exact List.range_succ
 unfold l1A at hr
 split at hr
 ·rename_i s1 e1
  split at hr
  ·rename_i o ho
   have key:=m1v (q:=[ops.size-1]) hcall _ e1 h (b:=b) (k:=k) hb
   rw[←hrange ho] at key
   rcases key with ⟨_,a1,cs1,w1,I1,μ1,HV1,lv1,g1,st1⟩|⟨v,hv,_⟩
   ·split at hr
    ·rename_i s2 e2
     simp only[Option.some.injEq,Prod.mk.injEq] at hr
     obtain⟨rfl,rfl⟩:=hr
     obtain⟨a2,cs2,w2,I2,μ2,HV2,lv2,g2,st2⟩:=o1I (b:=b) (rest:=[]) (k:=k) hcall g1 e2 ho
     exact .inl ⟨rfl,a2,cs2,w2,I2,μ2,HV2,lv2,g2,st1.trans st2⟩
    ·rename_i v s2 e2
     simp only[Option.some.injEq,Prod.mk.injEq] at hr
     obtain⟨rfl,rfl⟩:=hr
     obtain⟨a2,cs2,w2,I2,μ2,HV2,lv2,ch,g2,c2,st2⟩:=o1I (b:=b) (rest:=[]) (k:=k) hcall g1 e2 ho
     exact .inr ⟨v,rfl,a2,cs2,w2,I2,μ2,HV2,lv2,ch,g2,c2,.of_steps st1 st2⟩
    ·cases hr
   ·cases hv
  ·cases hr
 ·rename_i hne
  cases hs:ops.size with
  |zero=>
   rw[hs] at hr
   exact l1D hcall _ hr h hb
  |succ n=>
   have ho:ops[ops.size-1]? =some ops[ops.size-1]:=Array.getElem?_eq_getElem (by omega)
   have key:=m1v (q:=[ops.size-1]) hcall _ hr h (b:=b) (k:=k) hb
   rw[←hrange ho,hs] at key
   rcases key with ⟨rfl,_⟩|hk
   ·exact absurd hr (hne s')
   ·exact .inr hk
theorem m1z (hcall:CallSound P B.I call) (hmix:P.follows .mixedOrders=true) {k:Nat} {f:FuncId}:∀(c:Code) (bid:Nat) {s:St} {x:AX} {s':St},b1Y P cfg call k f bid c s=some (x,s')→
  ∀{a:Act} {cs:List Frame} {w:World} {I:Mem} {μ:List Nat} {HV:List (List Value)} {lv:List LV},Good B s a cs w I μ HV lv→∀{b:Frame} {kk:List Item},(B.dk=true→b.kind=.deferred)→
   CRel P B x s' (lone (b.at a (.code c::kk)) cs w) b kk:=by
 intro c
 induction c with
 |skip=>
  intro bid s x s' h a cs w I μ HV lv hg b kk hb
  simp only[b1Y,Option.some.injEq,Prod.mk.injEq] at h
  obtain⟨rfl,rfl⟩:=h
  exact⟨a,cs,w,I,μ,HV,lv,hg,.one step_skip⟩
 |region id ops draw=>
  intro bid s x s' h a cs w I μ HV lv hg b kk hb
  cases draw with
  |false=>
   simp only[b1Y] at h
   split at h
   ·exact .of_steps (.one step_region) (r1O (l1D hcall _ h hg hb))
   ·exact .of_steps (.one step_region) (r1O (y1j hcall h hg hb))
  |true=>
   simp only[b1Y] at h
   split at h
   ·rename_i s1 hd
    simp only[Option.some.injEq,Prod.mk.injEq] at h
    obtain⟨rfl,rfl⟩:=h
    have ho:=v1B hd (w.tape w.drawn (.order b.fn id))
    refine .of_steps (.one step_region_draw) (r1O (ops:=ops) ?_)
    rw[show Region.schedule (P.follows .mixedOrders) ops (w.tape w.drawn (.order b.fn id))=Region.linearise .any ops (w.tape w.drawn (.order b.fn id)) by simp [Region.schedule,hmix]]
    exact l1D hcall _ ho (t1E hg) hb
   ·split at h
    ·rename_i v1 s1 hd
     simp only[Option.some.injEq,Prod.mk.injEq] at h
     obtain⟨rfl,rfl⟩:=h
     obtain⟨u',ho,hg',hl'⟩:=v1C hd (w.tape w.drawn (.order b.fn id))
     refine .of_steps (.one step_region_draw) ?_
     rw[show Region.schedule (P.follows .mixedOrders) ops (w.tape w.drawn (.order b.fn id))=Region.linearise .any ops (w.tape w.drawn (.order b.fn id)) by simp [Region.schedule,hmix]]
     rcases l1D hcall _ ho (t1E hg) hb with ⟨h,_⟩|⟨v2,hv,hp⟩
     ·cases h
     ·injection hv with hv
      subst hv
      exact v1D hp hg' hl'
    ·cases h
 |seq x y ihx ihy=>
  intro bid s r s' h a cs w I μ HV lv hg b kk hb
  simp only[b1Y] at h
  split at h
  ·rename_i s1 h1
   obtain⟨a1,cs1,w1,I1,μ1,HV1,lv1,g1,st1⟩:=ihx bid h1 hg (b:=b) (kk:=.code y::kk) hb
   split at h
   ·rename_i s2 hm
    obtain⟨lv2,μ2,HV2,g2⟩:=q1Y g1 hm
    exact .of_steps (.head step_seq st1) (ihy bid h g2 hb)
   ·cases h
  ·rename_i r1 hne
   subst_vars
   have:=ihx bid h hg (b:=b) (kk:=.code y::kk) hb
   refine .of_steps (.one step_seq) (this.pass (fun id k' hk=>by simpa [exitTo] using hk) ?_)
   rintro rfl
   exact hne _ h
 |cond c x y ihx ihy=>
  intro bid s r s' h a cs w I μ HV lv hg b kk hb
  simp only[b1Y] at h
  have hev:a.eval c=b1f a.tmps.toList c:=o1C a c
  have hrep:=k1e hg.inv.tms c
  split at h
  ·rename_i e
   rw[e] at hrep
   have:a.eval c=.bool true:=by rw[hev];exact f1d hrep rfl
   exact .of_steps (.one (step_cond this)) (ihx bid h hg hb)
  ·rename_i e
   rw[e] at hrep
   have:a.eval c=.bool false:=by rw[hev];exact f1d hrep rfl
   exact .of_steps (.one (step_cond this)) (ihy bid h hg hb)
  ·cases h
 |block id x ih=>
  intro bid s r s' h a cs w I μ HV lv hg b kk hb
  simp only[b1Y] at h
  have key:∀r1 s1,b1Y P cfg call k f id x s=some (r1,s1)→CRel P B r1 s1 (lone (b.at a (.code x:: .inBlock id::kk)) cs w) b (.inBlock id::kk):=fun r1 s1 h1=>ih id h1 hg hb
  split at h
  ·rename_i id' s1 h1
   have:=key _ _ h1
   obtain⟨a1,cs1,w1,I1,μ1,HV1,lv1,g1,st1⟩:=this
   split at h
   ·rename_i e
    subst e
    simp only[Option.some.injEq,Prod.mk.injEq] at h
    obtain⟨rfl,rfl⟩:=h
    exact⟨a1,cs1,w1,I1,μ1,HV1,lv1,g1,.head step_block (st1 kk (by simp [exitTo]))⟩
   ·rename_i e
    simp only[Option.some.injEq,Prod.mk.injEq] at h
    obtain⟨rfl,rfl⟩:=h
    refine⟨a1,cs1,w1,I1,μ1,HV1,lv1,g1,fun k' hk=>.head step_block (st1 k' ?_)⟩
    have:(id==id')=false:=by simp;exact fun h=>e h.symm
    simp [exitTo,this,hk]
  ·rename_i hne
   have:=key _ _ h
   refine .of_steps (.one step_block) ?_
   cases r with
   |normal=>
    obtain⟨a1,cs1,w1,I1,μ1,HV1,lv1,g1,st1⟩:=this
    exact⟨a1,cs1,w1,I1,μ1,HV1,lv1,g1,st1.trans (.one step_inBlock)⟩
   |exit id'=>exact absurd h (hne id' s')
   |ret=>exact this
   |panic v=>exact this
 |loop x ih=>
  intro bid s r s' h a cs w I μ HV lv hg b kk hb
  simp only[b1Y] at h
  refine .of_steps (.one step_loop) ?_
  have key:∀(n:Nat) {s:St} {r:AX} {s':St},h1x (d1H (cfg f).live bid) (b1Y P cfg call k f bid x) n s=some (r,s')→∀{a:Act} {cs:List Frame} {w:World} {I:Mem} {μ:List Nat} {HV:List (List Value)} {lv:List LV},
    Good B s a cs w I μ HV lv→CRel P B r s' (lone (b.at a (.code x:: .inLoop x::kk)) cs w) b kk:=by
   intro n
   induction n with
   |zero=>intro s r s' h;simp [h1x] at h
   |succ n ihn=>
    intro s r s' h a cs w I μ HV lv hg
    simp only[h1x] at h
    split at h
    ·cases h
    ·rename_i s0 hm
     obtain⟨lv0,μ0,HV0,hg0⟩:=q1Y hg hm
     split at h
     ·rename_i s1 h1
      obtain⟨a1,cs1,w1,I1,μ1,HV1,lv1,g1,st1⟩:=ih bid h1 hg0 (b:=b) (kk:=.inLoop x::kk) hb
      exact .of_steps (st1.trans (.one step_inLoop)) (ihn h g1)
     ·rename_i hne
      have:=ih bid h hg0 (b:=b) (kk:=.inLoop x::kk) hb
      refine this.pass (fun id k' hk=>by simpa [exitTo] using hk) ?_
      rintro rfl
      exact hne _ h
  exact key k h hg
 |exit id=>
  intro bid s x s' h a cs w I μ HV lv hg b kk hb
  simp only[b1Y,Option.some.injEq,Prod.mk.injEq] at h
  obtain⟨rfl,rfl⟩:=h
  exact⟨a,cs,w,I,μ,HV,lv,hg,fun k' hk=>.one (step_exit hk)⟩
 |ret=>
  intro bid s x s' h a cs w I μ HV lv hg b kk hb
  simp only[b1Y,Option.some.injEq,Prod.mk.injEq] at h
  obtain⟨rfl,rfl⟩:=h
  exact⟨a,cs,w,I,μ,HV,lv,_,hg,.one step_ret⟩
 |rangeFunc=>intro bid s x s' h;simp [b1Y] at h
 |scope x ih=>
  intro bid s r s' h a cs w I μ HV lv hg b kk hb
  simp only[b1Y] at h
  have:=ih bid h hg (b:=b) (kk:=.inScope x::kk) hb
  refine .of_steps (.one step_scope) ?_
  cases r with
  |normal=>
   obtain⟨a1,cs1,w1,I1,μ1,HV1,lv1,g1,st1⟩:=this
   exact⟨a1,cs1,w1,I1,μ1,HV1,lv1,g1,st1.trans (.one step_inScope)⟩
  |exit id=>exact this.pass (fun id k' hk=>by simpa [exitTo] using hk) (by simp)
  |ret=>exact this.pass (fun id k' hk=>by simpa [exitTo] using hk) (by simp)
  |panic v=>exact this.pass (fun id k' hk=>by simpa [exitTo] using hk) (by simp)
 |label l=>
  intro bid s x s' h a cs w I μ HV lv hg b kk hb
  simp only[b1Y,Option.some.injEq,Prod.mk.injEq] at h
  obtain⟨rfl,rfl⟩:=h
  exact⟨a,cs,w,I,μ,HV,lv,hg,.one step_label⟩
 |goto=>intro bid s x s' h;simp [b1Y] at h
 |refuse=>intro bid s x s' h;simp [b1Y] at h
end
end Go.Eng
end

section
/-
  THE ENGINE, part 15: deferred calls, results, whole calls: what the interpreter answers, the model answers.
-/
set_option linter.unusedVariables false
set_option linter.unusedSimpArgs false
namespace Go.Eng
section
variable {P:Program} {cfg:FuncId→FCfg} {call:FuncId→List AV→RM→Heap→Option CRes} {B:Base} {I J:Mem} {μ ν:List Nat}
theorem r1a {d:Deferred} {g:FuncId} {cap:Array Value} (hd:d.target=.fn (.func g) cap) {fn:Func} {body:Code} (hf:P.funcs[g]? =some fn) (hb:fn.body=some body) (hng:(fn.name== "runtime.NumGoroutine")=false) (w:World):
  (invoke d.target d.args).run P w=.ok (.enter g (d.args++cap)) w:=by
 have hng':¬fn.name= "runtime.NumGoroutine" :=by simpa using hng
 simp [hd,invoke,callFunc,hf,hb,hng']
theorem y1m {rm:RM} {u:FrameMode} (h:ModeRel I μ rm u):ModeRel I μ (m1t rm) (settle u):=by
 cases rm with
 |none=>exact h.elim
 |returning=>have:u=.returning:=h;subst this;rfl
 |panicking v r=>
  obtain⟨x,older,rfl,h2,h3⟩:=h
  cases r with
  |false=>exact⟨x,older,rfl,h2,h3⟩
  |true=>
   have:older.dropWhile (!·.goexit)=[]:=by
    induction older with
    |nil=>rfl
    |cons e l ih=>
     have he:=h2 e (by simp)
     simp only[List.dropWhile_cons,he,Bool.not_false,if_true]
     exact ih fun e' he'=>h2 e' (by simp [he'])
   simp only[settle,this,ModeRel,m1t]
theorem y1n {rm:RM} {u:FrameMode} {v:AV} {chain:List PanicEntry} (h:ModeRel I μ rm u) (hc:o1d I μ chain v):ModeRel I μ (.panicking v false) (raised u chain):=by
 obtain⟨x,o,rfl,h2,h3⟩:=hc
 cases rm with
 |none=>exact h.elim
 |returning=>have:u=.returning:=h;subst this;exact⟨x,o,rfl,h2,h3⟩
 |panicking v' r=>
  obtain⟨y,older,rfl,h5,h6⟩:=h
  refine⟨x,o++({v:=y,recovered:=r,goexit:=false}::older),rfl,fun e he=>?_,h3⟩
  rcases List.mem_append.1 he with he|he
  ·exact h2 e he
  ·simp only[List.mem_cons] at he
   rcases he with rfl|he
   ·rfl
   ·exact h5 e he
theorem t1F {I0:Mem} (hcall:CallSound P I0 call) {fn:Func} {tmps:Array Value} {R:Ending→World→Prop} {vs:List Value} {tm:List AV} {lh:List (Option LCell)} {lv:List LV} {A:Nat→Prop} {w0:World} {μ0:List Nat}:
  ∀(ads:List ADef) {m m':RM} {H H':Heap},d1M call ads m H=some (m',H')→∀{ds:List Deferred} {u:FrameMode} {w:World} {I:Mem} {μ:List Nat} {HV:List (List Value)},
   FInv I μ HV lv w vs tm lh H→DRel I μ ds ads→ModeRel I μ m u→Eff I0 w0 A I w→(∀b,0<tok μ HV H lv lh vs tm b→A b∨w0.heap.size≤b)→LeN μ0 μ→
   (∀{u':FrameMode} {w':World} {J:Mem} {ν:List Nat} {HV':List (List Value)},FInv J ν HV' lv w' vs tm lh H'→ModeRel J ν m' u'→Eff I0 w0 A J w'→(∀b,0<tok ν HV' H' lv lh vs tm b→A b∨w0.heap.size≤b)→LeN μ0 ν→Leaves P fn tmps R [] u' w')→
   Leaves P fn tmps R ds u w:=by
 intro ads
 induction ads with
 |nil=>
  intro m m' H H' h ds u w I μ HV h1 h2 h3 h4 h5 h6 hk
  simp only[d1M,Option.some.injEq,Prod.mk.injEq] at h
  obtain⟨rfl,rfl⟩:=h
  cases ds with
  |nil=>exact hk h1 h3 h4 h5 h6
  |cons d ds=>exact h2.elim
 |cons ad ads ih=>
  intro m m' H H' h ds u w I μ HV h1 h2 h3 h4 h5 h6 hk
  cases ds with
  |nil=>exact h2.elim
  |cons d ds=>
   obtain⟨⟨cap,e1,e2,e3⟩,h2'⟩:=h2
   obtain⟨sp,tz⟩:=RepL.argSpare (I:=I) (w:=w) (cargs:=d.args.toList++cap.toList) e3
   have hone:∀b,c1E μ HV H (d.args.toList++cap.toList) ad.args b≤1:=fun b=>by
    have:=h1.one b;have:=tz b;unfold c1E;omega
   have hno:(a1q ([]:List Operand) ([]:List Bool)).Nodup:=by simp [a1q]
   have hrest:∀{out:Out} {H1:Heap} {J:Mem} {ν:List Nat} {HV':List (List Value)} {e:Ending} {w':World},CPost I μ HV w H (d.args.toList++cap.toList) ad.args out H1 J ν HV' e w'→
     FInv J ν HV' lv w' vs tm lh H1∧Eff I0 w0 A J w'∧(∀b,0<tok ν HV' H1 lv lh vs tm b→A b∨w0.heap.size≤b)∧LeN μ0 ν∧DRel J ν ds ads:=by
    intro out H1 J ν HV' e w' hp
    obtain⟨f1,f2,f3,f4,f5⟩:=m1u h1 hno (fun b=>by rw[tz b];exact Nat.zero_le _) hp
    refine⟨f1,h4.trans f2 h5,fun b hb=>?_,h6.trans f3,h2'.mono f2.le f3⟩
    simp only[disT] at f5
    rcases f5 b (by omega) with q|q
    ·exact h5 b q
    ·exact .inr (Nat.le_trans h4.size q)
   have hu:u≠ .run:=by
    cases m with
    |none=>exact h3.elim
    |returning=>have:u=.returning:=h3;rw[this];simp
    |panicking v r=>obtain⟨x,o,rfl,_⟩:=h3;simp
   simp only[d1M] at h
   have hca:d.args++cap=(d.args.toList++cap.toList).toArray:=by apply Array.ext';simp
   split at h
   ·rename_i v1 rm1 H1 hc
    obtain⟨⟨fn',body,q1,q2,q3⟩,q4⟩:=hcall _ _ _ _ _ hc I μ HV w _ h4.le h1.h e2 sp hone
    have hcd:CallsD P ad.f (d.args++cap) u w fun e u' w'=>∃J ν HV',CPost I μ HV w H (d.args.toList++cap.toList) ad.args (.ret v1) H1 J ν HV' e w'∧ModeRel J ν rm1 u':=by
     rw[hca]
     cases m with
     |none=>exact h3.elim
     |returning=>exact q4 u h3
     |panicking v r=>exact q4 u h3
    refine⟨hu,_,cap,_,_,e1,r1a e1 q1 q2 q3 w,hcd.mono ?_⟩
    rintro e u' w' ⟨J,ν,HV',hp,hm⟩
    obtain⟨v',rfl,_⟩:=hp.outr
    obtain⟨r1,r2,r3,r4,r5⟩:=hrest hp
    exact ih h r1 r5 (y1m hm) r2 r3 r4 hk
   ·rename_i v1 rm1 H1 hc
    obtain⟨⟨fn',body,q1,q2,q3⟩,q4⟩:=hcall _ _ _ _ _ hc I μ HV w _ h4.le h1.h e2 sp hone
    have hcd:CallsD P ad.f (d.args++cap) u w fun e u' w'=>∃J ν HV',CPost I μ HV w H (d.args.toList++cap.toList) ad.args (.panic v1) H1 J ν HV' e w'∧ModeRel J ν rm1 u':=by
     rw[hca]
     cases m with
     |none=>exact h3.elim
     |returning=>exact q4 u h3
     |panicking v r=>exact q4 u h3
    refine⟨hu,_,cap,_,_,e1,r1a e1 q1 q2 q3 w,hcd.mono ?_⟩
    rintro e u' w' ⟨J,ν,HV',hp,hm⟩
    obtain⟨chain,rfl,hch⟩:=hp.outr
    obtain⟨r1,r2,r3,r4,r5⟩:=hrest hp
    exact ih h r1 r5 (y1n hm hch) r2 r3 r4 hk
   ·cases h
def resF (tmps:Array Value) (rv:ResultVar):Sem Value:=
 match rv with
 | .tmp t=>pure (tmps.getD t undef)
 | .cell a t=>do loadVar t (←asAddr (tmps.getD a undef))
theorem t1G {s:St} {tmps:Array Value} {w:World} {HV:List (List Value)} {lv:List LV} {H:Heap} (h:FInv I μ HV lv w tmps.toList s.tmps s.lh H) {rv:ResultVar} {a:AV} (hr:i1Y P s H rv=some a):
  ∃v,(resF tmps rv).run P w=.ok v w∧Rep I μ v a∧SpareOk I w v a∧∀b,tc b v a≤tcs b tmps.toList s.tmps:=by
 have hget:∀t,tmps.getD t undef=b1f tmps.toList (.tmp t):=fun t=>by simp [b1f,List.getD_eq_getElem?_getD,Array.getD_eq_getD_getElem?]
 cases rv with
 |tmp t=>
  simp only[i1Y] at hr
  split at hr
  ·cases hr
  ·rename_i hlp
   simp only[Option.some.injEq] at hr;subst hr
   refine⟨_,rfl,?_,?_,fun b=>?_⟩
   ·rw[hget];exact(k1e h.tms (.tmp t)).rep (by simpa [e1I] using hlp)
   ·rw[hget];exact p1r h.tms h.sp (.tmp t)
   ·rw[hget]
    simp only[b1f,List.getD_eq_getElem?_getD]
    cases ht:s.tmps[t]? with
    |none=>
     have:tc b (tmps.toList[t]?.getD undef) .any=0:=by unfold tc;split<;>simp_all
     simp only[Option.getD_none];rw[this];exact Nat.zero_le _
    |some a=>
     have htl:t<tmps.toList.length:=by rw[h.tms.1];exact(List.getElem?_eq_some_iff.1 ht).1
     have:=g1H (tc b) (List.getElem?_eq_getElem htl) ht
     simpa [List.getElem?_eq_getElem htl] using this
 |cell x t=>
  simp only[i1Y] at hr
  have hx:=k1e h.tms (.tmp x)
  simp only[e1I] at hx
  have key:∀{b o:Nat} {ws:List Value} {cs:List AV} {off:Nat},b1f tmps.toList (.tmp x)=.pointer (some ⟨b,o+off,none⟩)→CellsAt w b o ws→OneCells ws→RepL I μ ws cs→c1M P t cs off=some a→
    ∃v,(resF tmps (.cell x t)).run P w=.ok v w∧Rep I μ v a∧SpareOk I w v a∧∀b,tc b v a≤tcs b tmps.toList s.tmps:=by
   intro b o ws cs off e1 e2 e3 e4 e5
   obtain⟨v,r1,r2,r3⟩:=f1x (P:=P) e2 e3 e4 e5
   refine⟨v,?_,r2,r3.spare w v,fun b=>by rw[r3.tc];exact Nat.zero_le _⟩
   unfold resF
   simp only[]
   rw[hget,e1]
   simp [asAddr,r1]
  split at hr
  ·rename_i cs e
   rw[e] at hx
   generalize hu:b1f tmps.toList (.tmp x)=u at hx
   cases hx with
   |ref b o ws cs hr' h2 _=>exact key (off:=0) hu (hr'.cells h.h.imm) (hr'.one h.h.imm) h2 hr
  ·rename_i id off e
   rw[e] at hx
   split at hr
   ·rename_i cs hc
    obtain⟨b,ws,q1,q2,⟨ee,k1⟩,k2,k3,k4,k5⟩:=h.h.get hc
    generalize hu:b1f tmps.toList (.tmp x)=u at hx
    cases hx with
    |ptr _ _ b2 hb2 _=>
     rw[q1] at hb2;cases hb2
     exact key (o:=0) (off:=off) (by rw[hu];simp) (CellsAt.block k1) k3 k2 hr
   ·cases hr
  ·rename_i l g off e
   rw[e] at hx
   split at hr
   ·rename_i g' cs hc
    split at hr
    ·rename_i hgg
     subst hgg
     obtain⟨g1,cs1,b,ws,q1,q2,q3,b',q4,q5⟩:=hx
     rw[hc] at q1;cases q1
     obtain rfl:=q5 rfl
     obtain⟨⟨ee,k1⟩,k2,k3,k4,k5⟩:=h.lo l _ _ q2 hc
     exact key (o:=0) (off:=off) (by rw[q4];simp) (CellsAt.block k1) k3 k2 hr
    ·cases hr
   ·cases hr
  ·cases hr
theorem n1r {s:St} {tmps:Array Value} {w:World} {HV:List (List Value)} {lv:List LV} {H:Heap} (h:FInv I μ HV lv w tmps.toList s.tmps s.lh H):∀{rs:List ResultVar} {avs:List AV},c1X P s H rs=some avs→
  ∃vs,(rs.mapM (resF tmps)).run P w=.ok vs w∧RepL I μ vs avs∧
   (∀(i:Nat) v a,vs[i]? =some v→avs[i]? =some a→SpareOk I w v a∧∀b,tc b v a≤tcs b tmps.toList s.tmps)
 |[],avs,hr=>by
  simp only[c1X,Option.some.injEq] at hr;subst hr
  exact⟨[],by simp,.nil,fun i v a h=>by simp at h⟩
 |r::rs,avs,hr=>by
  simp only[c1X] at hr
  split at hr
  ·rename_i a l ha hl
   simp only[Option.some.injEq] at hr;subst hr
   obtain⟨v,e1,e2,e3,e4⟩:=t1G h ha
   obtain⟨vs,f1,f2,f3⟩:=n1r h hl
   refine⟨v::vs,?_,.cons e2 f2,fun i u c hu hc=>?_⟩
   ·rw[List.mapM_cons]
    simp only[Sem.run_bind]
    rw[e1]
    simp only[Result.andThen_ok,Sem.run_bind]
    rw[f1]
    rfl
   ·cases i with
    |zero=>simp at hu hc;subst hu hc;exact⟨e3,e4⟩
    |succ i=>exact f3 i u c (by simpa using hu) (by simpa using hc)
  ·cases hr
theorem l1G {fn:Func} {s:St} {tmps:Array Value} {w:World} {HV:List (List Value)} {lv:List LV} {H:Heap} (h:FInv I μ HV lv w tmps.toList s.tmps s.lh H) {avs:List AV} (hr:c1X P s H fn.results.toList=some avs):
  ∃v,(results fn tmps).run P w=.ok v w∧Rep I μ v (e1T avs)∧SpareOk I w v (e1T avs)∧∀b,tc b v (e1T avs)≤tcs b tmps.toList s.tmps:=by
 obtain⟨vs,e1,e2,e3⟩:=n1r h hr
 have hres:results fn tmps=(do let vs←fn.results.mapM (resF tmps);pure (if h:vs.size=1 then vs[0] else .tuple vs)):=rfl
 have hrun:(results fn tmps).run P w=.ok (if h:vs.toArray.size=1 then vs.toArray[0] else .tuple vs.toArray) w:=by
  rw[hres,Sem.run_bind,Array.mapM_eq_mapM_toList,Sem.run_map,e1]
  rfl
 have hlen:=e2.length
 rcases vs with _|⟨v,_|⟨v',vs⟩⟩<;>rcases avs with _|⟨a,_|⟨a',asq⟩⟩<;>simp at hlen
 ·exact⟨.tuple #[],by rw[hrun];rfl,.tuple _ _ .nil .nil,fun _ _ _ _ _ _ _ h=>(by cases h),fun b=>Nat.zero_le _⟩
 ·obtain⟨k1,k2⟩:=e3 0 v a rfl rfl
  exact⟨v,by rw[hrun];rfl,e2,k1,k2⟩
 ·exact⟨.tuple (v::v'::vs).toArray,by rw[hrun];simp,.tuple _ _ (by simpa using e2.dis) .nil,fun _ _ _ _ _ _ _ h=>(by cases h),fun b=>Nat.zero_le _⟩
theorem y1o {I:Mem} {μ:List Nat} {HV:List (List Value)} {w:World} {H:Heap} {cargs:List Value} {args:List AV} (hh:HInv I μ HV w H) (hr:RepL I μ cargs args) (hs:AllSpare I w cargs args) (h1:∀b,c1E μ HV H cargs args b≤1)
  {rm:RM} {cs:List Frame} (hrm:RmOk I μ cs cs rm) (n:Nat):
  Good ⟨I,μ,w,fun b=>0<c1E μ HV H cargs args b,cs,!rm.isNone⟩ ⟨args++List.replicate (n-args.length) (.val undef),List.replicate n none,⟨H,[],rm,H.length⟩⟩
   {tmps:=cargs.toArray++Array.replicate (n-cargs.toArray.size) undef,defers:=[]} cs w I μ HV (List.replicate n none):=by
 have hl:=hr.length
 have e1:(cargs.toArray++Array.replicate (n-cargs.toArray.size) undef).toList=cargs++List.replicate (n-args.length) undef:=by simp [hl]
 have hrep:RepL I μ (cargs++List.replicate (n-args.length) undef) (args++List.replicate (n-args.length) (.val undef)):=hr.append (by
  have:=RepL.vals (I:=I) (μ:=μ) (List.replicate (n-args.length) undef)
  simpa using this)
 have hz:∀b k,tcs b (List.replicate k undef) (List.replicate k (.val undef))=0:=by
  intro b k;induction k with
  |zero=>rfl
  |succ k ih=>
   simp only[tcs] at ih
   simp only[List.replicate_succ,tcs,zsum]
   rw[ih];rfl
 have hz2:∀b (k:Nat),zsum (lc b) (List.replicate k (none:LV)) (List.replicate k (none:Option LCell))=0:=by
  intro b k;induction k with
  |zero=>rfl
  |succ k ih=>simp only[List.replicate_succ,zsum];rw[ih];rfl
 have htok:∀b,tok μ HV H (List.replicate n none) (List.replicate n none) (cargs++List.replicate (n-args.length) undef) (args++List.replicate (n-args.length) (.val undef)) b=c1E μ HV H cargs args b:=fun b=>by
  have e2:=c1T (tc b) (l:=cargs) (l':=List.replicate (n-args.length) undef) (m:=args) (m':=List.replicate (n-args.length) (.val undef)) hl
  have:=hz b (n-args.length)
  have:=hz2 b n
  unfold tok c1E
  simp only[tcs] at *
  omega
 have hsp:AllSpare I w (cargs++List.replicate (n-args.length) undef) (args++List.replicate (n-args.length) (.val undef)):=AllSpare.append hl hs fun i v a hv ha=>by
  simp only[List.getElem?_replicate] at ha
  split at ha
  ·cases ha;intro _ _ _ _ _ _ _ h;cases h
  ·cases ha
 refine⟨⟨hh,?_,?_,by simp,?_,?_⟩,trivial,hrm,by simp,.refl _ _ _,?_,.refl μ,hh.l1.symm⟩
 ·simp only[e1];exact⟨hrep.length,fun i v a hv ha=>.of (hrep.get hv ha)⟩
 ·simp only[e1];exact hsp
 ·intro t d c hd hc
  simp only[List.getElem?_replicate] at hd hc
  split at hd
  ·rename_i ht;rw[if_pos ht] at hc;cases hd;cases hc;trivial
  ·cases hd
 ·intro b
  simp only[e1]
  have:=htok b;have:=h1 b;unfold tok at *;omega
 ·intro b hb
  simp only[e1] at hb
  rw[htok] at hb
  exact .inl hb
end
end Go.Eng
end

section
/-
  THE ENGINE, part 15b: a heap is cut back to what it was, where nothing that is left points beyond.
-/
set_option linter.unusedVariables false
set_option linter.unusedSimpArgs false
namespace Go.Eng
theorem CPost.cut {I J:Mem} {μ ν:List Nat} {HV HV':List (List Value)} {w w':World} {H H':Heap} {cargs:List Value} {args:List AV} {out:Out} {e:Ending} {n:Nat}
  (h:CPost I μ HV w H cargs args out H' J ν HV' e w') (hn:μ.length=n) (hv:out.low n=true) (hl:lowss n (H'.take n)=true):
  CPost I μ HV w H cargs args out (H'.take n) J (ν.take n) (HV'.take n) e w':=by
 have le:∀b,(ν.take n).count b+tcss b (HV'.take n) (H'.take n)+d1d b out e≤ν.count b+tcss b HV' H'+d1d b out e:=by
  intro b
  have h1:=q1Z b ν n
  have h2:tcss b (HV'.take n) (H'.take n)≤tcss b HV' H':=o1H _ n _ _
  omega
 refine⟨h.h.take hl,h.eff,?_,?_,fun b=>Nat.le_trans (le b) (h.one b),fun b hb=>h.tok b (Nat.lt_of_lt_of_le hb (le b))⟩
 ·intro i b hi
  rw[List.getElem?_take,if_pos (by rw[←hn];exact(List.getElem?_eq_some_iff.1 hi).1)]
  exact h.mu i b hi
 ·cases out with
  |ret v=>
   obtain⟨v',e1,e2,e3⟩:=h.outr
   exact⟨v',e1,e2.take_mu (by simp only[lows,Bool.and_true];exact hv),e3⟩
  |panic v=>
   obtain⟨chain,e1,u,older,e2,e3,e4⟩:=h.outr
   exact⟨chain,e1,u,older,e2,e3,e4.take_mu (by simp only[lows,Bool.and_true];exact hv)⟩
theorem CPost.cutRes {I J:Mem} {μ ν:List Nat} {HV HV':List (List Value)} {w w':World} {H:Heap} {cargs:List Value} {args:List AV} {r:CRes} {e:Ending} {n:Nat}
  (h:CPost I μ HV w H cargs args r.out r.H J ν HV' e w') (hn:μ.length=n):∃ν' HV'',CPost I μ HV w H cargs args (cutRes n r).out (cutRes n r).H J ν' HV'' e w':=by
 unfold Eng.cutRes
 split
 ·exact⟨_,_,h⟩
 ·split
  ·rename_i hl
   simp only[Bool.and_eq_true] at hl
   exact⟨_,_,h.cut hn hl.1 hl.2⟩
  ·exact⟨_,_,h⟩
end Go.Eng
end

section
/-
  THE ENGINE, part 16: what the interpreter answers to a call, the model answers.
-/
set_option linter.unusedVariables false
set_option linter.unusedSimpArgs false
namespace Go.Eng
def r1Q (P:Program) (I0:Mem) (ext:Ext):Prop:=
 ∀f e,ext f=some e→∀args H out H',e args H=some (out,H')→∀I μ HV w cargs,LeM I0 I→HInv I μ HV w H→RepL I μ cargs args→AllSpare I w cargs args→(∀b,c1E μ HV H cargs args b≤1)→
  Calls P f cargs.toArray w fun e w'=>∃J ν HV',CPost I μ HV w H cargs args out H' J ν HV' e w'
section
variable {P:Program} {cfg:FuncId→FCfg} {call:FuncId→List AV→RM→Heap→Option CRes}
theorem t1H {I:Mem} {μ:List Nat} {HV:List (List Value)} {w:World} {H:Heap} {cargs:List Value} {args:List AV} {J:Mem} {ν:List Nat} {HV':List (List Value)} {lv:List LV} {w':World} {vs:List Value} {tm:List AV} {lh:List (Option LCell)} {H':Heap}
  (h:FInv J ν HV' lv w' vs tm lh H') (he:Eff I w (fun b=>0<c1E μ HV H cargs args b) J w') (ht:∀b,0<tok ν HV' H' lv lh vs tm b→0<c1E μ HV H cargs args b∨w.heap.size≤b) (hm:LeN μ ν)
  {v:Value} {a:AV} (hr:Rep J ν v a) (hs:SpareOk J w' v a) (hc:∀b,tc b v a≤tcs b vs tm):CPost I μ HV w H cargs args (.ret a) H' J ν HV' (.returned v) w':=
 ⟨h.h,he,hm,⟨v,rfl,hr,hs⟩,fun b=>by have:=h.one b;have:=hc b;simp only[d1d];omega,fun b hb=>by
  simp only[d1d] at hb
  have:=hc b
  exact ht b (by unfold tok;omega)⟩
theorem o1J {I:Mem} {μ:List Nat} {HV:List (List Value)} {w:World} {H:Heap} {cargs:List Value} {args:List AV} {J:Mem} {ν:List Nat} {HV':List (List Value)} {lv:List LV} {w':World} {vs:List Value} {tm:List AV} {lh:List (Option LCell)} {H':Heap}
  (h:FInv J ν HV' lv w' vs tm lh H') (he:Eff I w (fun b=>0<c1E μ HV H cargs args b) J w') (ht:∀b,0<tok ν HV' H' lv lh vs tm b→0<c1E μ HV H cargs args b∨w.heap.size≤b) (hm:LeN μ ν)
  {chain:List PanicEntry} {v:AV} (hr:o1d J ν chain v):CPost I μ HV w H cargs args (.panic v) H' J ν HV' (.panicked chain) w':=
 ⟨h.h,he,hm,⟨chain,rfl,hr⟩,fun b=>by have:=h.one b;simp only[d1d];omega,fun b hb=>by
  simp only[d1d] at hb
  exact ht b (by unfold tok;omega)⟩
theorem a2Y {I:Mem} {μ:List Nat} {cs0 cs:List Frame} {rm:RM} (h:RmOk I μ cs0 cs rm) (hr:rm.isNone=true):rm=.none∧cs=cs0:=by
 cases rm with
 |none=>exact⟨rfl,h⟩
 |_=>simp [RM.isNone] at hr
theorem y1p {I:Mem} (hcall:CallSound P I call) (hmix:P.follows .mixedOrders=true) {k:Nat} {f:FuncId} {fn:Func} {c:Code} (hf:P.funcs[f]? =some fn) (hb:fn.body=some c) {args:List AV} {rm:RM} {H:Heap} {res:CRes}
  (h:o1B P cfg call k f fn c args rm H=some res) {μ:List Nat} {HV:List (List Value)} {w:World} {cargs:List Value} (hh:HInv I μ HV w H) (hr:RepL I μ cargs args) (hs:AllSpare I w cargs args)
  (h1:∀b,c1E μ HV H cargs args b≤1):
  (rm=.none→Calls P f cargs.toArray w fun e w'=>∃J ν HV',CPost I μ HV w H cargs args res.out res.H J ν HV' e w')∧
  (∀u,ModeRel I μ rm u→CallsD P f cargs.toArray u w fun e u' w'=>∃J ν HV',CPost I μ HV w H cargs args res.out res.H J ν HV' e w'∧ModeRel J ν res.rm u'):=by
 have hbody:∀(cs:List Frame) (kd:CallKind),RmOk I μ cs cs rm→(rm.isNone=false→kd=.deferred)→∃(x:AX) (s:St) (m:RM) (a':Act) (cs':List Frame) (w':World) (I':Mem) (μ':List Nat) (HV':List (List Value)) (lv':List LV) (u:FrameMode) (todo:List Item),
   d1w P call fn s m=some res∧Good ⟨I,μ,w,fun b=>0<c1E μ HV H cargs args b,cs,!rm.isNone⟩ s a' cs' w' I' μ' HV' lv'∧ModeRel I' μ' m u∧
   Steps P (lone (Frame.enter P f cargs.toArray kd) cs w) (lone {({(default:Frame) with fn:=f,kind:=kd}:Frame).at a' todo with mode:=u} cs' w'):=by
  intro cs kd hrm hkd
  have hg:=y1o hh hr hs h1 hrm fn.ntmps
  have henter:Frame.enter P f cargs.toArray kd=({(default:Frame) with fn:=f,kind:=kd}:Frame).at {tmps:=cargs.toArray++Array.replicate (fn.ntmps-cargs.toArray.size) undef,defers:=[]} [.code c]:=by
   simp [Frame.enter,Frame.at,hf,hb]
  have hkd':(!rm.isNone)=true→({(default:Frame) with fn:=f,kind:=kd}:Frame).kind=.deferred:=fun h=>hkd (by simpa using h)
  unfold o1B at h
  split at h
  ·rename_i s hc
   obtain⟨a',cs',w',I',μ',HV',lv',g,st⟩:=m1z hcall hmix c 0 hc hg (b:={(default:Frame) with fn:=f,kind:=kd}) (kk:=[]) hkd'
   exact⟨.normal,s,.returning,a',cs',w',I',μ',HV',lv',.returning,[],h,g,rfl,by rw[henter];exact st.trans (.one step_end)⟩
  ·rename_i s hc
   obtain⟨a',cs',w',I',μ',HV',lv',todo,g,st⟩:=m1z hcall hmix c 0 hc hg (b:={(default:Frame) with fn:=f,kind:=kd}) (kk:=[]) hkd'
   exact⟨.ret,s,.returning,a',cs',w',I',μ',HV',lv',.returning,todo,h,g,rfl,by rw[henter];exact st⟩
  ·rename_i v s hc
   obtain⟨a',cs',w',I',μ',HV',lv',chain,g,hch,todo,st⟩:=m1z hcall hmix c 0 hc hg (b:={(default:Frame) with fn:=f,kind:=kd}) (kk:=[]) hkd'
   obtain⟨y,older,rfl,q1,q2⟩:=hch
   exact⟨.panic v,s,.panicking v false,a',cs',w',I',μ',HV',lv',.panicking _,todo,h,g,⟨y,older,rfl,q1,q2⟩,by rw[henter];exact st⟩
  ·cases h
 refine⟨fun hrm0 cs=>?_,fun u hu c₀ cs hc₀=>?_⟩
 ·subst hrm0
  obtain⟨x,s,m,a',cs',w',I',μ',HV',lv',u,todo,hfin,hg,hm,hst⟩:=hbody cs .normal rfl (fun h=>by simp [RM.isNone] at h)
  have hgd:=hg.dk
  simp only[RM.isNone,Bool.not_true,Bool.not_false] at hgd
  obtain⟨hsr,hcs⟩:=a2Y hg.rm (by simpa [RM.isNone] using hgd)
  simp only at hcs
  subst hcs
  unfold d1w at hfin
  rw[hsr] at hfin
  simp only at hfin
  have hL:∀{m':RM} {H':Heap},d1M call s.g.defers m s.g.H=some (m',H')→
    (∀{u':FrameMode} {w'':World} {J:Mem} {ν:List Nat} {HV'':List (List Value)},FInv J ν HV'' lv' w'' a'.tmps.toList s.tmps s.lh H'→ModeRel J ν m' u'→Eff I w (fun b=>0<c1E μ HV H cargs args b) J w''→
     (∀b,0<tok ν HV'' H' lv' s.lh a'.tmps.toList s.tmps b→0<c1E μ HV H cargs args b∨w.heap.size≤b)→LeN μ ν→Leaves P fn a'.tmps (fun e w'=>∃J ν HV',CPost I μ HV w H cargs args res.out res.H J ν HV' e w') [] u' w'')→
    ∃e w'' fr,(∃J ν HV',CPost I μ HV w H cargs args res.out res.H J ν HV' e w'')∧Comes P (lone (Frame.enter P f cargs.toArray .normal) cs' w) (lone fr cs' w'') e∧fr.fn=f∧fr.leaving P w'' e:=by
   intro m' H' had hk
   have hl:=t1F hcall s.g.defers had hg.inv hg.df hm hg.eff hg.tk hg.mu (fn:=fn) (tmps:=a'.tmps) (R:=fun e w'=>∃J ν HV',CPost I μ HV w H cargs args res.out res.H J ν HV' e w') hk
   obtain⟨e',w'',fr',hR,hs',hfn',hl'⟩:=leaves_steps a'.defers u w' {({(default:Frame) with fn:=f,kind:=.normal}:Frame).at a' todo with mode:=u} cs' rfl rfl rfl hf rfl hl
   exact⟨e',w'',fr',hR,Comes.of_steps hst hs',hfn',hl'⟩
  split at hfin
  ·rename_i H' had
   split at hfin
   ·rename_i l hres
    simp only[Option.some.injEq] at hfin;subst hfin
    refine hL had fun {u' w'' J ν HV''} f1 f2 f3 f4 f5=>?_
    have:u'=.returning:=f2
    subst this
    obtain⟨v,r1,r2,r3,r4⟩:=l1G f1 hres
    exact⟨v,r1,J,ν,HV'',t1H f1 f3 f4 f5 r2 r3 r4⟩
   ·cases hfin
  ·rename_i v H' had
   simp only[Option.some.injEq] at hfin;subst hfin
   refine hL had fun {u' w'' J ν HV''} f1 f2 f3 f4 f5=>?_
   obtain⟨y,older,rfl,q1,q2⟩:=f2
   exact⟨J,ν,HV'',o1J f1 f3 f4 f5 ⟨y,older,rfl,q1,q2⟩⟩
  ·cases hfin
 ·have hnn:rm.isNone=false:=by cases rm<;>first|exact hu.elim|rfl
  have hcc:({c₀ with mode:=u}:Frame)=c₀:=by subst hc₀;rfl
  have hrmok:RmOk I μ (c₀::cs) (c₀::cs) rm:=by
   cases rm with
   |none=>exact hu.elim
   |returning=>exact⟨c₀,cs,u,rfl,by rw[hcc],hu⟩
   |panicking v r=>exact⟨c₀,cs,u,rfl,by rw[hcc],hu⟩
  obtain⟨x,s,m,a',cs',w',I',μ',HV',lv',u1,todo,hfin,hg,hm,hst⟩:=hbody (c₀::cs) .deferred hrmok (fun _=>rfl)
  have hgd:=hg.dk
  simp only[hnn,Bool.not_false,Bool.not_true] at hgd
  have hgr:=hg.rm
  simp only at hgr
  have hsnn:∃u',cs'={c₀ with mode:=u'}::cs∧ModeRel I' μ' s.g.rm u':=by
   cases hs:s.g.rm with
   |none=>rw[hs] at hgd;simp [RM.isNone] at hgd
   |returning=>rw[hs] at hgr;obtain⟨c1,r1,u',e1,e2,e3⟩:=hgr;cases e1;exact⟨u',e2,e3⟩
   |panicking v r=>rw[hs] at hgr;obtain⟨c1,r1,u',e1,e2,e3⟩:=hgr;cases e1;exact⟨u',e2,e3⟩
  obtain⟨u',hcs',hmr⟩:=hsnn
  have hfin2:s.g.defers.isEmpty=true∧((m=.returning∧∃l,c1X P s s.g.H fn.results.toList=some l∧res=⟨.ret (e1T l),s.g.rm,s.g.H⟩)∨(∃v,m=.panicking v false∧res=⟨.panic v,s.g.rm,s.g.H⟩)):=by
   unfold d1w at hfin
   split at hfin
   ·rename_i hs;rw[hs] at hgd;simp [RM.isNone] at hgd
   ·split at hfin
    ·rename_i hem
     refine⟨hem,?_⟩
     split at hfin
     ·split at hfin
      ·rename_i l hres
       simp only[Option.some.injEq] at hfin
       exact .inl ⟨rfl,l,hres,hfin.symm⟩
      ·cases hfin
     ·rename_i v
      simp only[Option.some.injEq] at hfin
      exact .inr ⟨v,rfl,hfin.symm⟩
     ·cases hfin
    ·cases hfin
  obtain⟨hem,hcase⟩:=hfin2
  have hdf:a'.defers=[]:=by
   have h2:=hg.df
   have:s.g.defers=[]:=by simpa using hem
   rw[this] at h2
   cases hd:a'.defers with
   |nil=>rfl
   |cons d ds=>rw[hd] at h2;exact h2.elim
  rw[hcs'] at hst
  rcases hcase with ⟨rfl,l,hres,rfl⟩|⟨v,rfl,rfl⟩
  ·have:u1=.returning:=hm
   subst this
   obtain⟨v,r1,r2,r3,r4⟩:=l1G hg.inv hres
   exact⟨.returned v,u',w',_,⟨I',μ',HV',t1H hg.inv hg.eff hg.tk hg.mu r2 r3 r4,hmr⟩,hst,rfl,rfl,hdf,fn,hf,r1⟩
  ·obtain⟨y,older,rfl,q1,q2⟩:=hm
   exact⟨.panicked _,u',w',_,⟨I',μ',HV',o1J hg.inv hg.eff hg.tk hg.mu ⟨y,older,rfl,q1,q2⟩,hmr⟩,hst,rfl,rfl,hdf,fn,hf⟩
theorem e2i {b:Nat} {t:TypeId} {v:Value} {a:AV}:tc b v (a1D P t a)≤tc b v a:=by
 cases a with
 |slice sz rows own=>
  have hno:∀n (rows':List (List AV)),tc b v (.slice n rows' .no)≤tc b v (.slice sz rows own):=by
   intro n rows'
   have:tc b v (.slice n rows' .no)=0:=by unfold tc;split<;>simp_all
   omega
  unfold a1D
  simp only
  split
  ·split
   ·split
    ·exact hno _ _
    ·split
     ·exact hno _ _
     ·exact Nat.le_refl _
   ·exact Nat.le_refl _
  ·exact Nat.le_refl _
 |_=>exact Nat.le_refl _
theorem v1E {I:Mem} {w:World} {t:TypeId} {v:Value} {a:AV} (h:SpareOk I w v a):SpareOk I w v (a1D P t a):=by
 cases a with
 |slice sz rows own=>
  have hno:∀n (rows':List (List AV)),SpareOk I w v (.slice n rows' .no):=by
   intro n rows' _ _ _ _ _ _ _ h;cases h
  unfold a1D
  simp only
  split
  ·split
   ·split
    ·exact hno _ _
    ·split
     ·exact hno _ _
     ·exact h
   ·exact h
  ·exact h
 |_=>exact h
theorem k1T (t:TypeId) (a:AV):(∃cs,a=.agg cs∧(n1S P t a=.agg cs∨∃ts,n1S P t a=.agg (h1D P ts cs)))∨n1S P t a=a1D P t a:=by
 cases a with
 |agg cs=>
  refine .inl ⟨cs,rfl,?_⟩
  unfold n1S
  simp only
  split
  ·split
   ·exact .inr ⟨_,rfl⟩
   ·exact .inl rfl
  ·exact .inl rfl
 |_=>exact .inr rfl
theorem t1I {I:Mem} {μ:List Nat} {t:TypeId} {v:Value} {a:AV} (h:Rep I μ v a):Rep I μ v (n1S P t a):=by
 rcases k1T (P:=P) t a with ⟨cs,rfl,e|⟨ts,e⟩⟩|e
 ·rw[e];exact h
 ·rw[e]
  cases h with
  |agg cs' _ ho h1 _=>exact .agg cs' _ ho (k1u h1) .nil
 ·rw[e];exact u1x h
theorem e2j {b:Nat} {t:TypeId} {v:Value} {a:AV}:tc b v (n1S P t a)≤tc b v a:=by
 have h0:∀cs,tc b v (.agg cs)=0:=fun cs=>by unfold tc;split<;>simp_all
 rcases k1T (P:=P) t a with ⟨cs,rfl,e|⟨ts,e⟩⟩|e
 ·rw[e];exact Nat.le_refl _
 ·rw[e,h0];exact Nat.zero_le _
 ·rw[e];exact e2i
theorem v1F {I:Mem} {w:World} {t:TypeId} {v:Value} {a:AV} (h:SpareOk I w v a):SpareOk I w v (n1S P t a):=by
 rcases k1T (P:=P) t a with ⟨cs,rfl,e|⟨ts,e⟩⟩|e
 ·rw[e];exact h
 ·rw[e];intro _ _ _ _ _ _ _ h;cases h
 ·rw[e];exact v1E h
theorem t1J {I:Mem} {μ:List Nat}:∀{ts:List TypeId} {vs:List Value} {asq:List AV},RepL I μ vs asq→RepL I μ vs (r1M P ts asq)
 |[],_,_,h=>by unfold r1M;exact h
 |t::ts,_,[],h=>h
 |t::ts,[],a::asq,h=>by cases h
 |t::ts,v::vs,a::asq,h=>by
  obtain⟨h1,h2⟩:=h.uncons
  exact .cons (t1I h1) (t1J h2)
theorem CPost.norm {I J:Mem} {μ ν:List Nat} {HV HV':List (List Value)} {w w':World} {H:Heap} {cargs:List Value} {args:List AV} {r:CRes} {e:Ending} {b:Bool} {ts:List TypeId}
  (h:CPost I μ HV w H cargs args r.out r.H J ν HV' e w'):CPost I μ HV w H cargs args (f1v P b ts r).out (f1v P b ts r).H J ν HV' e w':=by
 cases b with
 |false=>exact h
 |true=>
  have key:∀o,OutRel J ν w' o e→OutRel J ν w' (a2Q P ts o) e∧∀b,d1d b (a2Q P ts o) e≤d1d b o e:=by
   intro o ho
   cases o with
   |panic v=>exact⟨ho,fun b=>Nat.le_refl _⟩
   |ret v=>
    obtain⟨v',rfl,h1,h2⟩:=ho
    unfold a2Q
    simp only
    split
    ·exact⟨⟨v',rfl,t1I h1,v1F h2⟩,fun b=>e2j⟩
    ·split
     ·rename_i vs
      refine⟨⟨v',rfl,?_,fun _ _ _ _ _ _ _ h=>by cases h⟩,fun b=>?_⟩
      ·cases h1 with
       |tuple ws aws hw _=>exact .tuple ws _ (t1J hw) .nil
      ·have:tc b v' (.tuple (r1M P ts vs))=0:=by unfold tc;split<;>simp_all
       simp only[d1d,this];omega
     ·exact⟨⟨v',rfl,h1,h2⟩,fun b=>Nat.le_refl _⟩
  obtain⟨k1,k2⟩:=key r.out h.outr
  exact⟨h.h,h.eff,h.mu,k1,fun b=>by have:=h.one b;have:=k2 b;simp only[f1v];omega,fun b hb=>h.tok b (by have:=k2 b;simp only[f1v] at hb;omega)⟩
theorem v1G (hmix:P.follows .mixedOrders=true) (hng:∀(f:FuncId) (fn:Func),P.funcs[f]? =some fn→(fn.name== "runtime.NumGoroutine")=false) {ext:Ext} {I0:Mem} (hext:r1Q P I0 ext) (hextb:∀(f:FuncId) e,ext f=some e→∃(fn:Func) (c:Code),P.funcs[f]? =some fn∧fn.body=some c):
  ∀k,CallSound P I0 (e1m P cfg ext k):=by
 intro k
 induction k with
 |zero=>intro f args rm H res h;simp [e1m] at h
 |succ k ih=>
  intro f args rm H res h I μ HV w cargs hI hh hr hs h1
  simp only[e1m] at h
  split at h
  ·rename_i e he
   split at h
   ·split at h
    ·rename_i out H' heq
     simp only[Option.some.injEq] at h;subst h
     obtain⟨fn,c,hf,hb⟩:=hextb f e he
     exact⟨⟨fn,c,hf,hb,hng f fn hf⟩,hext f e he args H out H' heq I μ HV w cargs hI hh hr hs h1⟩
    ·cases h
   ·cases h
  ·split at h
   ·cases h
   ·rename_i fn hf
    split at h
    ·cases h
    ·rename_i c hb
     rw[Option.map_eq_some_iff] at h
     obtain⟨res0,h,rfl⟩:=h
     obtain⟨b1,b2⟩:=y1p (ih.mono hI) hmix hf hb h hh hr hs h1
     refine⟨⟨fn,c,hf,hb,hng f fn hf⟩,?_⟩
     cases rm with
     |none=>
      refine(b1 rfl).mono fun e w' ⟨J,ν,HV',hp⟩=>?_
      obtain⟨ν',HV'',hq⟩:=hp.cutRes hh.l1
      exact⟨J,ν',HV'',hq.norm⟩
     |returning=>
      intro u hu
      refine(b2 u hu).mono ?_
      rintro e u' w' ⟨J,ν,HV',hp,hm⟩
      refine⟨J,ν,HV',hp.norm,?_⟩
      unfold f1v;split<;>exact hm
     |panicking v r=>
      intro u hu
      refine(b2 u hu).mono ?_
      rintro e u' w' ⟨J,ν,HV',hp,hm⟩
      refine⟨J,ν,HV',hp.norm,?_⟩
      unfold f1v;split<;>exact hm
end
end Go.Eng
end

section
/-
  THE ENGINE, part 17: the interpreter without fuel: what comes with enough of it (ev), and that it goes by the code.
-/
set_option linter.unusedVariables false
set_option linter.unusedSimpArgs false
namespace Go.Eng
abbrev CallF:=FuncId→List AV→RM→Heap→Option CRes
def LeC (a b:CallF):Prop:=∀f args rm H r,a f args rm H=some r→b f args rm H=some r
section
variable {P:Program} {cfg:FuncId→FCfg} {a b:CallF}
theorem v1H (h:LeC a b) {g:FuncId} {args:List AV} {m:G} {r:GR} (hr:g1W a g args m=some r):g1W b g args m=some r:=by
 unfold g1W at *
 split at hr
 ·cases hr
 ·rename_i hlp
  rw[if_neg hlp]
  split at hr
  ·rename_i e;rw[h _ _ _ _ _ e];exact hr
  ·rename_i e;rw[h _ _ _ _ _ e];exact hr
  ·cases hr
theorem r1b (h:LeC a b) {f:FuncId} {o:Oper} {vs:List AV} {m:G} {r:GR} (hr:f1T P cfg a f o vs m=some r):f1T P cfg b f o vs m=some r:=by
 unfold f1T at *
 split at hr<;>try exact hr
 split at hr<;>try exact hr
 split at hr
 ·exact v1H h hr
 ·cases hr
theorem r1R (h:LeC a b) {f:FuncId} {o:Oper} {s:St} {r:SR} (hr:aop P cfg a f o s=some r):aop P cfg b f o s=some r:=by
 unfold aop at *
 simp only at *
 split at hr
 ·rename_i hn
  rw[if_pos hn]
  split at hr
  ·exact hr
  ·exact hr
  ·split at hr
   ·rename_i e;rw[r1b h e];exact hr
   ·rename_i e;rw[r1b h e];exact hr
   ·cases hr
 ·cases hr
theorem i1u (h:LeC a b) {f:FuncId} {ops:Array Oper} {o:Oper} {s:St} {r:SR} (hr:d1p P cfg a f ops o s=some r):d1p P cfg b f ops o s=some r:=by
 unfold d1p at *
 split at hr
 ·exact r1R h hr
 ·exact hr
 ·cases hr
theorem o1K (h:LeC a b) {f:FuncId} {ops:Array Oper}:∀{l:List Nat} {s:St} {r:AX×St},aops P cfg a f ops l s=some r→aops P cfg b f ops l s=some r:=by
 intro l
 induction l with
 |nil=>intro s r hr;exact hr
 |cons i l ih=>
  intro s r hr
  simp only[aops] at *
  split at hr
  ·cases hr
  ·split at hr
   ·rename_i e;rw[i1u h e];exact ih hr
   ·rename_i e;rw[i1u h e];exact hr
   ·cases hr
theorem y1q (h:LeC a b) {f:FuncId} {ops:Array Oper}:∀{l:List Oper} {i:Nat} {ancs:List Nat} {foot:List (Nat×Nat)} {s:St} {r:St},g1X P cfg a f ops l i ancs foot s=some r→g1X P cfg b f ops l i ancs foot s=some r:=by
 intro l
 induction l with
 |nil=>intro i ancs foot s r hr;exact hr
 |cons o l ih=>
  intro i ancs foot s r hr
  simp only[g1X] at *
  split at hr
  ·rename_i hc
   rw[if_pos hc]
   split at hr
   ·rename_i e;rw[i1u h e];exact ih hr
   ·cases hr
  ·cases hr
theorem o1L (h:LeC a b) {f:FuncId} {ops:Array Oper}:∀{l:List Oper} {pv:Option (Nat×AV)} {i:Nat} {ancs:List Nat} {foot:List (Nat×Nat)} {s:St} {r:AV×St},c1S P cfg a f ops pv l i ancs foot s=some r→c1S P cfg b f ops pv l i ancs foot s=some r:=by
 intro l
 induction l with
 |nil=>intro pv i ancs foot s r hr;cases pv<;>exact hr
 |cons o l ih=>
  intro pv i ancs foot s r hr
  simp only[c1S] at hr⊢
  split at hr
  ·cases hr
  ·rename_i hed
   try simp only[hed]
   split at hr
   ·rename_i hb;(try simp only[hb]);exact ih hr
   ·rename_i hb
    try simp only[hb]
    split at hr
    ·cases hr
    ·rename_i hap
     try simp only[hap]
     split at hr
     ·rename_i e;simp only[i1u h e];exact ih hr
     ·rename_i e
      simp only[i1u h e]
      split at hr
      ·rename_i hrw;(try simp only[hrw]);exact ih hr
      ·cases hr
     ·cases hr
theorem j1c {f:FuncId} {ops:Array Oper}:∀{l:List Oper} {i:Nat} {ancs:List Nat} {foot:List (Nat×Nat)} {s:St} {r:AV×St},c1S P cfg a f ops none l i ancs foot s=some r→g1X P cfg a f ops l i ancs foot s=none:=by
 intro l
 induction l with
 |nil=>intro i ancs foot s r hr;simp [c1S] at hr
 |cons o l ih=>
  intro i ancs foot s r hr
  simp only[c1S,i1b] at hr
  simp only[g1X]
  split at hr
  ·cases hr
  ·rename_i hed
   split at hr
   ·cases hr
   ·rename_i hap
    rw[if_pos ⟨hed,hap⟩]
    split at hr
    ·rename_i e;simp only[e];exact ih hr
    ·rename_i e;simp only[e]
    ·cases hr
theorem k1r {live:Option Nat} {x y:St→Option (AX×St)} (h:∀s r,x s=some r→y s=some r):∀{n m:Nat},n≤m→∀{s:St} {r:AX×St},h1x live x n s=some r→h1x live y m s=some r:=by
 intro n
 induction n with
 |zero=>intro m _ s r hr;simp [h1x] at hr
 |succ n ih=>
  intro m hm s r hr
  obtain⟨m,rfl⟩:∃k,m=k+1:=⟨m-1,by omega⟩
  simp only[h1x] at *
  split at hr
  ·cases hr
  ·split at hr
   ·rename_i e;rw[h _ _ e];exact ih (by omega) hr
   ·rename_i hne
    rw[h _ _ hr]
    split
    ·rename_i e;exact absurd (hr.trans e) (by intro hh;exact hne _ hh)
    ·rfl
theorem o1M (h:LeC a b) {f:FuncId} {o:Oper} {s:St} {r:SR} (hr:g1Z cfg a f o s=some r):g1Z cfg b f o s=some r:=by
 unfold g1Z at *
 split at hr
 ·cases hr
 ·rename_i e0
  try simp only[e0]
  split at hr
  ·rename_i c hop
   split at hr
   ·rename_i x g first captured args hc hv
    try simp only[hop] at hv⊢
    split at hr
    ·cases hr
    ·rename_i t gen hlp
     split at hr
     ·rename_i gen' cs hlh
      split at hr
      ·cases hr
      ·rename_i hg
       split at hr
       ·cases hr
       ·rename_i hany
        split at hr
        ·rename_i r0 hcl
         simp only[hc,hv,hlp,hlh,hg,hany,h _ _ _ _ _ hcl]
         simpa only[hop] using hr
        ·cases hr
     ·cases hr
   ·cases hr
  ·cases hr
theorem y1r (h:LeC a b) {f:FuncId} {ops:Array Oper} {s:St} {r:AX×St} (hr:l1A P cfg a f ops s=some r):l1A P cfg b f ops s=some r:=by
 unfold l1A at *
 split at hr
 ·rename_i s1 e1
  rw[o1K h e1]
  simp only
  split at hr
  ·rename_i o ho
   split at hr
   ·rename_i s2 e2;simp only[o1M h e2];exact hr
   ·rename_i v s2 e2;simp only[o1M h e2];exact hr
   ·cases hr
  ·cases hr
 ·rename_i hne
  rw[o1K h hr]
  split
  ·rename_i s1 e;injection e with e;subst e;exact absurd hr (hne s1)
  ·rfl
theorem m1A (h:LeC a b) {k k':Nat} (hk:k≤k') {f:FuncId}:∀{c:Code} {bid:Nat} {s:St} {r:AX×St},b1Y P cfg a k f bid c s=some r→b1Y P cfg b k' f bid c s=some r:=by
 intro c
 induction c with
 |skip=>intro bid s r hr;simpa [b1Y] using hr
 |region id ops d=>
  intro bid s r hr
  cases d with
  |false=>
   simp only[b1Y] at *
   cases hl:d1H (cfg f).live (2000000+id) with
   |none=>simp only[hl] at hr⊢;exact o1K h hr
   |some m=>simp only[hl] at hr⊢;exact y1r h hr
  |true=>
   simp only[b1Y] at *
   split at hr
   ·rename_i e;rw[y1q h e];exact hr
   ·split at hr
    ·rename_i e
     have e2:=o1L h e
     rw[j1c e2,e2];exact hr
    ·cases hr
 |seq x y ihx ihy=>
  intro bid s r hr
  simp only[b1Y] at *
  split at hr
  ·rename_i e
   rw[ihx e]
   simp only
   split at hr
   ·rename_i e2;exact ihy hr
   ·cases hr
  ·rename_i hne
   rw[ihx hr]
   split
   ·rename_i e;exact absurd (hr.trans e) (by intro hh;exact hne _ hh)
   ·rfl
 |cond c x y ihx ihy=>
  intro bid s r hr
  simp only[b1Y] at *
  split at hr
  ·exact ihx hr
  ·exact ihy hr
  ·cases hr
 |block id x ih=>
  intro bid s r hr
  simp only[b1Y] at *
  split at hr
  ·rename_i e;rw[ih e];exact hr
  ·rename_i hne
   rw[ih hr]
   split
   ·rename_i e;exact absurd (hr.trans e) (by intro hh;exact hne _ _ hh)
   ·rfl
 |loop x ih=>intro bid s r hr;simp only[b1Y] at *;exact k1r (fun s r e=>ih e) hk hr
 |exit id=>intro bid s r hr;simpa [b1Y] using hr
 |ret=>intro bid s r hr;simpa [b1Y] using hr
 |rangeFunc=>intro bid s r hr;simp [b1Y] at hr
 |scope x ih=>intro bid s r hr;simp only[b1Y] at *;exact ih hr
 |label=>intro bid s r hr;simpa [b1Y] using hr
 |goto=>intro bid s r hr;simp [b1Y] at hr
 |refuse=>intro bid s r hr;simp [b1Y] at hr
theorem n1s (h:LeC a b):∀{l:List ADef} {m:RM} {H:Heap} {r:RM×Heap},d1M a l m H=some r→d1M b l m H=some r:=by
 intro l
 induction l with
 |nil=>intro m H r hr;exact hr
 |cons d l ih=>
  intro m H r hr
  simp only[d1M] at *
  split at hr
  ·rename_i e;rw[h _ _ _ _ _ e];exact ih hr
  ·rename_i e;rw[h _ _ _ _ _ e];exact ih hr
  ·cases hr
theorem j1U (h:LeC a b) {fn:Func} {s:St} {m:RM} {r:CRes} (hr:d1w P a fn s m=some r):d1w P b fn s m=some r:=by
 unfold d1w at *
 split at hr
 ·rename_i e
  split at hr
  ·rename_i e2;rw[n1s h e2];exact hr
  ·rename_i e2;rw[n1s h e2];exact hr
  ·cases hr
 ·exact hr
theorem y1s (h:LeC a b) {k k':Nat} (hk:k≤k') {f:FuncId} {fn:Func} {c:Code} {args:List AV} {rm:RM} {H:Heap} {r:CRes} (hr:o1B P cfg a k f fn c args rm H=some r):o1B P cfg b k' f fn c args rm H=some r:=by
 unfold o1B at *
 split at hr
 ·rename_i e;rw[m1A h hk e];exact j1U h hr
 ·rename_i e;rw[m1A h hk e];exact j1U h hr
 ·rename_i e;rw[m1A h hk e];exact j1U h hr
 ·cases hr
theorem y1t {ext:Ext}:∀k,LeC (e1m P cfg ext k) (e1m P cfg ext (k+1)):=by
 intro k
 induction k with
 |zero=>intro f args rm H r hr;simp [e1m] at hr
 |succ k ih=>
  intro f args rm H r hr
  rw[e1m] at hr⊢
  simp only at *
  split at hr
  ·exact hr
  ·split at hr
   ·cases hr
   ·split at hr
    ·cases hr
    ·rw[Option.map_eq_some_iff] at hr⊢
     obtain⟨r0,hr,e⟩:=hr
     exact⟨r0,y1s ih (Nat.le_succ k) hr,e⟩
theorem m1B {ext:Ext} {k k':Nat} (h:k≤k'):LeC (e1m P cfg ext k) (e1m P cfg ext k'):=by
 induction k' with
 |zero=>have:k=0:=by omega
        subst this;exact fun _ _ _ _ _ h=>h
 |succ k' ih=>
  by_cases e:k=k'+1
  ·subst e;exact fun _ _ _ _ _ h=>h
  ·exact fun f args rm H r hr=>y1t k' f args rm H r (ih (by omega) f args rm H r hr)
open Classical in
noncomputable def ev (P:Program) (cfg:FuncId→FCfg) (ext:Ext):CallF:=fun f args rm H=>
 if h:∃r,∃k,e1m P cfg ext k f args rm H=some r then some (Classical.choose h) else none
theorem o1N {ext:Ext} {f:FuncId} {args:List AV} {rm:RM} {H:Heap} {r:CRes}:ev P cfg ext f args rm H=some r↔∃k,e1m P cfg ext k f args rm H=some r:=by
 unfold ev
 constructor
 ·intro h
  split at h
  ·rename_i hx
   simp only[Option.some.injEq] at h;subst h
   exact Classical.choose_spec hx
  ·cases h
 ·rintro ⟨k,hk⟩
  have hx:∃r,∃k,e1m P cfg ext k f args rm H=some r:=⟨r,k,hk⟩
  rw[dif_pos hx]
  obtain⟨k',hk'⟩:=Classical.choose_spec hx
  have h1:=m1B (Nat.le_max_left k k') _ _ _ _ _ hk
  have h2:=m1B (Nat.le_max_right k k') _ _ _ _ _ hk'
  rw[h1] at h2
  exact congrArg some (Option.some.inj h2).symm
open Classical in
noncomputable def v1I (live:Option Nat) (body:St→Option (AX×St)) (s:St):Option (AX×St):=
 if h:∃r,∃n,h1x live body n s=some r then some (Classical.choose h) else none
theorem l1H {live:Option Nat} {body:St→Option (AX×St)} {s:St} {r:AX×St}:v1I live body s=some r↔∃n,h1x live body n s=some r:=by
 unfold v1I
 constructor
 ·intro h
  split at h
  ·rename_i hx
   simp only[Option.some.injEq] at h;subst h
   exact Classical.choose_spec hx
  ·cases h
 ·rintro ⟨k,hk⟩
  have hx:∃r,∃n,h1x live body n s=some r:=⟨r,k,hk⟩
  rw[dif_pos hx]
  obtain⟨k',hk'⟩:=Classical.choose_spec hx
  have h1:=k1r (fun _ _ h=>h) (Nat.le_max_left k k') hk
  have h2:=k1r (fun _ _ h=>h) (Nat.le_max_right k k') hk'
  rw[h1] at h2
  exact congrArg some (Option.some.inj h2).symm
section
variable (P) (cfg) (call:CallF)
noncomputable def c1O (f:FuncId):(b:Nat)→Code→St→Option (AX×St)
 |_,.skip,s=>some (.normal,s)
 |_,.region id ops false,s=>match d1H (cfg f).live (2000000+id) with
  |none=>aops P cfg call f ops (List.range ops.size) s
  |some _=>l1A P cfg call f ops s
 |_,.region _ ops true,s=>match g1X P cfg call f ops ops.toList 0 [] [] s with
  |some s'=>some (.normal,s')
  |none=>match c1S P cfg call f ops none ops.toList 0 [] [] s with
   |some (v,s')=>some (.panic v,g1Y s')
   |none=>none
 |b,.seq x y,s=>match c1O f b x s with
  |some (.normal,s')=>match f1u (d1H (cfg f).live (k1Q y)) s' with
   |some s2=>c1O f b y s2
   |none=>none
  |r=>r
 |b,.cond c x y,s=>match e1I s.tmps c with
  | .val (.bool true)=>c1O f b x s
  | .val (.bool false)=>c1O f b y s
  |_=>none
 |_,.block id x,s=>match c1O f id x s with
  |some (.exit id',s')=>if id'=id then some (.normal,s') else some (.exit id',s')
  |r=>r
 |b,.loop x,s=>v1I (d1H (cfg f).live b) (c1O f b x) s
 |_,.exit id,s=>some (.exit id,s)
 |_,.ret,s=>some (.ret,s)
 |b,.scope x,s=>c1O f b x s
 |_,.label _,s=>some (.normal,s)
 |_,_,_=>none
noncomputable def a2Z (f:FuncId) (fn:Func) (c:Code) (args:List AV) (rm:RM) (H:Heap):Option CRes:=
 match c1O P cfg call f 0 c ⟨args++List.replicate (fn.ntmps-args.length) (.val undef),List.replicate fn.ntmps none,⟨H,[],rm,H.length⟩⟩ with
 |some (.normal,s)=>d1w P call fn s .returning
 |some (.ret,s)=>d1w P call fn s .returning
 |some (.panic v,s)=>d1w P call fn s (.panicking v false)
 |_=>none
end
variable {ext:Ext}
theorem t1K {f:FuncId} {args:List AV} {rm:RM} {H:Heap} {r:CRes} (h:ev P cfg ext f args rm H=some r):∃K,∀k,K≤k→e1m P cfg ext k f args rm H=some r:=by
 obtain⟨K,hK⟩:=o1N.1 h
 exact⟨K,fun k hk=>m1B hk _ _ _ _ _ hK⟩
theorem y1u {g:FuncId} {args:List AV} {m:G} {r:GR} (hr:g1W (ev P cfg ext) g args m=some r):∃K,∀k,K≤k→g1W (e1m P cfg ext k) g args m=some r:=by
 unfold g1W at *
 split at hr
 ·cases hr
 ·rename_i hlp
  simp only[if_neg hlp]
  split at hr
  ·rename_i e;obtain⟨K,hK⟩:=t1K e;exact⟨K,fun k hk=>by rw[hK k hk];exact hr⟩
  ·rename_i e;obtain⟨K,hK⟩:=t1K e;exact⟨K,fun k hk=>by rw[hK k hk];exact hr⟩
  ·cases hr
theorem t1L {f:FuncId} {o:Oper} {vs:List AV} {m:G} {r:GR} (hr:f1T P cfg (ev P cfg ext) f o vs m=some r):∃K,∀k,K≤k→f1T P cfg (e1m P cfg ext k) f o vs m=some r:=by
 unfold f1T at *
 split at hr<;>try exact⟨0,fun k _=>hr⟩
 split at hr<;>try exact⟨0,fun k _=>hr⟩
 split at hr
 ·exact y1u hr
 ·cases hr
theorem g2S {f:FuncId} {o:Oper} {s:St} {r:SR} (hr:aop P cfg (ev P cfg ext) f o s=some r):∃K,∀k,K≤k→aop P cfg (e1m P cfg ext k) f o s=some r:=by
 unfold aop at *
 simp only at *
 split at hr
 ·rename_i hn
  simp only[if_pos hn]
  split at hr
  ·exact⟨0,fun k _=>hr⟩
  ·exact⟨0,fun k _=>hr⟩
  ·split at hr
   ·rename_i e;obtain⟨K,hK⟩:=t1L e;exact⟨K,fun k hk=>by rw[hK k hk];exact hr⟩
   ·rename_i e;obtain⟨K,hK⟩:=t1L e;exact⟨K,fun k hk=>by rw[hK k hk];exact hr⟩
   ·cases hr
 ·cases hr
theorem j1V {f:FuncId} {ops:Array Oper} {o:Oper} {s:St} {r:SR} (hr:d1p P cfg (ev P cfg ext) f ops o s=some r):∃K,∀k,K≤k→d1p P cfg (e1m P cfg ext k) f ops o s=some r:=by
 unfold d1p at *
 split at hr
 ·exact g2S hr
 ·exact⟨0,fun k _=>hr⟩
 ·cases hr
theorem r1S {f:FuncId} {ops:Array Oper}:∀{l:List Nat} {s:St} {r:AX×St},aops P cfg (ev P cfg ext) f ops l s=some r→∃K,∀k,K≤k→aops P cfg (e1m P cfg ext k) f ops l s=some r:=by
 intro l
 induction l with
 |nil=>intro s r hr;exact⟨0,fun k _=>hr⟩
 |cons i l ih=>
  intro s r hr
  simp only[aops] at *
  split at hr
  ·cases hr
  ·rename_i o ho
   split at hr
   ·rename_i e
    obtain⟨K,hK⟩:=j1V e
    obtain⟨K',hK'⟩:=ih hr
    exact⟨max K K',fun k hk=>by rw[hK k (by omega)];exact hK' k (by omega)⟩
   ·rename_i e
    obtain⟨K,hK⟩:=j1V e
    exact⟨K,fun k hk=>by rw[hK k hk];exact hr⟩
   ·cases hr
theorem r1c {f:FuncId} {o:Oper} {s:St} {r:SR} (hr:g1Z cfg (ev P cfg ext) f o s=some r):∃K,∀k,K≤k→g1Z cfg (e1m P cfg ext k) f o s=some r:=by
 unfold g1Z at *
 split at hr
 ·cases hr
 ·rename_i e0
  try simp only[e0]
  split at hr
  ·rename_i c hop
   split at hr
   ·rename_i x g first captured args hc hv
    try simp only[hop] at hv⊢
    split at hr
    ·cases hr
    ·rename_i t gen hlp
     split at hr
     ·rename_i gen' cs hlh
      split at hr
      ·cases hr
      ·rename_i hg
       split at hr
       ·cases hr
       ·rename_i hany
        split at hr
        ·rename_i r0 hcl
         obtain⟨K,hK⟩:=t1K hcl
         refine⟨K,fun k hk=>?_⟩
         simp only[hc,hv,hlp,hlh,hg,hany,hK k hk]
         simpa only[hop] using hr
        ·cases hr
     ·cases hr
   ·cases hr
  ·cases hr
theorem b2a {f:FuncId} {ops:Array Oper} {s:St} {r:AX×St} (hr:l1A P cfg (ev P cfg ext) f ops s=some r):∃K,∀k,K≤k→l1A P cfg (e1m P cfg ext k) f ops s=some r:=by
 unfold l1A at *
 split at hr
 ·rename_i s1 e1
  obtain⟨K,hK⟩:=r1S e1
  split at hr
  ·rename_i o ho
   split at hr
   ·rename_i s2 e2
    obtain⟨K',hK'⟩:=r1c e2
    exact⟨max K K',fun k hk=>by rw[hK k (by omega)];simp only[hK' k (by omega)];exact hr⟩
   ·rename_i v s2 e2
    obtain⟨K',hK'⟩:=r1c e2
    exact⟨max K K',fun k hk=>by rw[hK k (by omega)];simp only[hK' k (by omega)];exact hr⟩
   ·cases hr
  ·cases hr
 ·rename_i hne
  obtain⟨K,hK⟩:=r1S hr
  refine⟨K,fun k hk=>?_⟩
  rw[hK k hk]
  split
  ·rename_i s1 e;injection e with e;subst e;exact absurd hr (hne s1)
  ·rfl
theorem b2b {f:FuncId} {ops:Array Oper}:∀{l:List Oper} {i:Nat} {ancs:List Nat} {foot:List (Nat×Nat)} {s:St} {r:St},g1X P cfg (ev P cfg ext) f ops l i ancs foot s=some r→∃K,∀k,K≤k→g1X P cfg (e1m P cfg ext k) f ops l i ancs foot s=some r:=by
 intro l
 induction l with
 |nil=>intro i ancs foot s r hr;exact⟨0,fun k _=>hr⟩
 |cons o l ih=>
  intro i ancs foot s r hr
  simp only[g1X] at *
  split at hr
  ·rename_i hc
   simp only[if_pos hc]
   split at hr
   ·rename_i e
    obtain⟨K,hK⟩:=j1V e
    obtain⟨K',hK'⟩:=ih hr
    exact⟨max K K',fun k hk=>by rw[hK k (by omega)];exact hK' k (by omega)⟩
   ·cases hr
  ·cases hr
theorem y1v {f:FuncId} {ops:Array Oper}:∀{l:List Oper} {pv:Option (Nat×AV)} {i:Nat} {ancs:List Nat} {foot:List (Nat×Nat)} {s:St} {r:AV×St},c1S P cfg (ev P cfg ext) f ops pv l i ancs foot s=some r→∃K,∀k,K≤k→c1S P cfg (e1m P cfg ext k) f ops pv l i ancs foot s=some r:=by
 intro l
 induction l with
 |nil=>intro pv i ancs foot s r hr;cases pv<;>exact⟨0,fun k _=>hr⟩
 |cons o l ih=>
  intro pv i ancs foot s r hr
  simp only[c1S] at hr⊢
  split at hr
  ·cases hr
  ·rename_i hed
   try simp only[hed]
   split at hr
   ·rename_i hb;(try simp only[hb]);exact ih hr
   ·rename_i hb
    try simp only[hb]
    split at hr
    ·cases hr
    ·rename_i hap
     try simp only[hap]
     split at hr
     ·rename_i e
      obtain⟨K,hK⟩:=j1V e
      obtain⟨K',hK'⟩:=ih hr
      exact⟨max K K',fun k hk=>by rw[hK k (by omega)];exact hK' k (by omega)⟩
     ·rename_i e
      obtain⟨K,hK⟩:=j1V e
      split at hr
      ·rename_i hrw
       obtain⟨K',hK'⟩:=ih hr
       exact⟨max K K',fun k hk=>by rw[hK k (by omega)];(try simp only[hrw]);exact hK' k (by omega)⟩
      ·cases hr
     ·cases hr
theorem o1O {f:FuncId}:∀{c:Code} {bid:Nat} {s:St} {r:AX×St},c1O P cfg (ev P cfg ext) f bid c s=some r→∃K,∀k,K≤k→b1Y P cfg (e1m P cfg ext k) k f bid c s=some r:=by
 intro c
 induction c with
 |skip=>intro bid s r hr;exact⟨0,fun k _=>by simpa [b1Y,c1O] using hr⟩
 |region id ops d=>
  intro bid s r hr
  cases d with
  |false=>
   simp only[b1Y,c1O] at *
   cases hl:d1H (cfg f).live (2000000+id) with
   |none=>simp only[hl] at hr⊢;exact r1S hr
   |some m=>simp only[hl] at hr⊢;exact b2a hr
  |true=>
   simp only[b1Y,c1O] at *
   split at hr
   ·rename_i e
    obtain⟨K,hK⟩:=b2b e
    exact⟨K,fun k hk=>by rw[hK k hk];exact hr⟩
   ·split at hr
    ·rename_i e
     obtain⟨K,hK⟩:=y1v e
     exact⟨K,fun k hk=>by rw[j1c (hK k hk),hK k hk];exact hr⟩
    ·cases hr
 |seq x y ihx ihy=>
  intro bid s r hr
  simp only[b1Y,c1O] at *
  split at hr
  ·rename_i e
   obtain⟨K,hK⟩:=ihx e
   split at hr
   ·rename_i s2 hm
    obtain⟨K',hK'⟩:=ihy hr
    exact⟨max K K',fun k hk=>by rw[hK k (by omega)];simp only[hm];exact hK' k (by omega)⟩
   ·cases hr
  ·rename_i hne
   obtain⟨K,hK⟩:=ihx hr
   refine⟨K,fun k hk=>?_⟩
   rw[hK k hk]
   split
   ·rename_i e;exact absurd (hr.trans e) (by intro hh;exact hne _ hh)
   ·rfl
 |cond c x y ihx ihy=>
  intro bid s r hr
  simp only[b1Y,c1O] at *
  split at hr
  ·rename_i e;simp only[e];exact ihx hr
  ·rename_i e;simp only[e];exact ihy hr
  ·cases hr
 |block id x ih=>
  intro bid s r hr
  simp only[b1Y,c1O] at *
  split at hr
  ·rename_i e
   obtain⟨K,hK⟩:=ih e
   exact⟨K,fun k hk=>by rw[hK k hk];exact hr⟩
  ·rename_i hne
   obtain⟨K,hK⟩:=ih hr
   refine⟨K,fun k hk=>?_⟩
   rw[hK k hk]
   split
   ·rename_i e;exact absurd (hr.trans e) (by intro hh;exact hne _ _ hh)
   ·rfl
 |loop x ih=>
  intro bid s r hr
  simp only[b1Y,c1O] at *
  obtain⟨n,hn⟩:=l1H.1 hr
  have key:∀n s r,h1x (d1H (cfg f).live bid) (c1O P cfg (ev P cfg ext) f bid x) n s=some r→∃K,∀k,K≤k→h1x (d1H (cfg f).live bid) (b1Y P cfg (e1m P cfg ext k) k f bid x) n s=some r:=by
   intro n
   induction n with
   |zero=>intro s r h;simp [h1x] at h
   |succ n ihn=>
    intro s r h
    simp only[h1x] at *
    split at h
    ·cases h
    ·split at h
     ·rename_i e
      obtain⟨K,hK⟩:=ih e
      obtain⟨K',hK'⟩:=ihn _ _ h
      exact⟨max K K',fun k hk=>by rw[hK k (by omega)];exact hK' k (by omega)⟩
     ·rename_i hne
      obtain⟨K,hK⟩:=ih h
      refine⟨K,fun k hk=>?_⟩
      rw[hK k hk]
      split
      ·rename_i e;exact absurd (h.trans e) (by intro hh;exact hne _ hh)
      ·rfl
  obtain⟨K,hK⟩:=key n s r hn
  exact⟨max K n,fun k hk=>k1r (fun _ _ h=>h) (by omega) (hK k (by omega))⟩
 |exit id=>intro bid s r hr;exact⟨0,fun k _=>by simpa [b1Y,c1O] using hr⟩
 |ret=>intro bid s r hr;exact⟨0,fun k _=>by simpa [b1Y,c1O] using hr⟩
 |rangeFunc=>intro bid s r hr;simp [c1O] at hr
 |scope x ih=>intro bid s r hr;simp only[c1O] at hr;obtain⟨K,hK⟩:=ih hr;exact⟨K,fun k hk=>by simp only[b1Y];exact hK k hk⟩
 |label=>intro bid s r hr;exact⟨0,fun k _=>by simpa [b1Y,c1O] using hr⟩
 |goto=>intro bid s r hr;simp [c1O] at hr
 |refuse=>intro bid s r hr;simp [c1O] at hr
theorem o1P:∀{l:List ADef} {m:RM} {H:Heap} {r:RM×Heap},d1M (ev P cfg ext) l m H=some r→∃K,∀k,K≤k→d1M (e1m P cfg ext k) l m H=some r:=by
 intro l
 induction l with
 |nil=>intro m H r hr;exact⟨0,fun k _=>hr⟩
 |cons d l ih=>
  intro m H r hr
  simp only[d1M] at *
  split at hr
  ·rename_i e
   obtain⟨K,hK⟩:=t1K e
   obtain⟨K',hK'⟩:=ih hr
   exact⟨max K K',fun k hk=>by rw[hK k (by omega)];exact hK' k (by omega)⟩
  ·rename_i e
   obtain⟨K,hK⟩:=t1K e
   obtain⟨K',hK'⟩:=ih hr
   exact⟨max K K',fun k hk=>by rw[hK k (by omega)];exact hK' k (by omega)⟩
  ·cases hr
theorem k1U {fn:Func} {s:St} {m:RM} {r:CRes} (hr:d1w P (ev P cfg ext) fn s m=some r):∃K,∀k,K≤k→d1w P (e1m P cfg ext k) fn s m=some r:=by
 unfold d1w at *
 split at hr
 ·rename_i e
  split at hr
  ·rename_i e2;obtain⟨K,hK⟩:=o1P e2;exact⟨K,fun k hk=>by rw[hK k hk];exact hr⟩
  ·rename_i e2;obtain⟨K,hK⟩:=o1P e2;exact⟨K,fun k hk=>by rw[hK k hk];exact hr⟩
  ·cases hr
 ·exact⟨0,fun k _=>hr⟩
theorem g2T {f:FuncId} {fn:Func} {c:Code} (hx:ext f=none) (hf:P.funcs[f]? =some fn) (hc:fn.body=some c) {args:List AV} {rm:RM} {H:Heap} {r:CRes} (h:a2Z P cfg (ev P cfg ext) f fn c args rm H=some r):
  ev P cfg ext f args rm H=some (f1v P (cfg f).norm fn.resultTypes.toList (a2P rm H.length r)):=by
 have key:∃K,∀k,K≤k→o1B P cfg (e1m P cfg ext k) k f fn c args rm H=some r:=by
  unfold a2Z at h
  unfold o1B
  split at h
  ·rename_i e
   obtain⟨K,hK⟩:=o1O e
   obtain⟨K',hK'⟩:=k1U h
   exact⟨max K K',fun k hk=>by rw[hK k (by omega)];exact hK' k (by omega)⟩
  ·rename_i e
   obtain⟨K,hK⟩:=o1O e
   obtain⟨K',hK'⟩:=k1U h
   exact⟨max K K',fun k hk=>by rw[hK k (by omega)];exact hK' k (by omega)⟩
  ·rename_i e
   obtain⟨K,hK⟩:=o1O e
   obtain⟨K',hK'⟩:=k1U h
   exact⟨max K K',fun k hk=>by rw[hK k (by omega)];exact hK' k (by omega)⟩
  ·cases h
 obtain⟨K,hK⟩:=key
 exact o1N.2 ⟨K+1,by rw[e1m];simp only[hx,hf,hc,hK K (Nat.le_refl _),Option.map_some]⟩
theorem b2c {f:FuncId} {e:List AV→Heap→Option (Out×Heap)} (hx:ext f=some e) {args:List AV} {H H':Heap} {out:Out} (h:e args H=some (out,H')):ev P cfg ext f args .none H=some ⟨out,.none,H'⟩:=
 o1N.2 ⟨1,by rw[e1m];simp only[hx,h]⟩
theorem y1w {live:Option Nat} {body:St→Option (AX×St)} {s s0 s1:St} {r:AX×St} (hm:f1u live s=some s0) (hb:body s0=some (.normal,s1)) (h:v1I live body s1=some r):v1I live body s=some r:=by
 obtain⟨n,hn⟩:=l1H.1 h
 exact l1H.2 ⟨n+1,by simp only[h1x,hm,hb];exact hn⟩
theorem o1Q {live:Option Nat} {body:St→Option (AX×St)} {s s0 s1:St} {x:AX} (hm:f1u live s=some s0) (hb:body s0=some (x,s1)) (hx:x≠ .normal):v1I live body s=some (x,s1):=by
 refine l1H.2 ⟨1,?_⟩
 simp only[h1x,hm,hb]
 split
 ·rename_i e;cases e;exact absurd rfl hx
 ·rfl
end
end Go.Eng
end

section
/-
  THE ENGINE, part 18b: what comes in: a world's cells asq memory that nobody writes.
-/
set_option linter.unusedVariables false
set_option linter.unusedSimpArgs false
namespace Go.Eng
def k1V (w:World):Mem:=fun b o=>match w.cell? ⟨b,o,none⟩ with
 |some v=>if v.oneCell'=true then some v else none
 |none=>none
theorem e2k (w:World):ImmOk (k1V w) w:=by
 intro b o v h
 unfold k1V at h
 split at h
 ·rename_i e
  split at h
  ·rename_i h1
   simp only[Option.some.injEq] at h;subst h
   exact⟨e,h1⟩
  ·cases h
 ·cases h
theorem x1p {w:World} {b o:Nat} {v:Value} (h:w.cell? ⟨b,o,none⟩=some v) (h1:v.oneCell'=true):k1V w b o=some v:=by
 unfold k1V;simp only[h,h1,if_true]
theorem hinv0 (w:World):HInv (k1V w) [] [] w []:=⟨e2k w,rfl,rfl,fun id b ws cs h=>by simp at h⟩
end Go.Eng
end

section
/-
  THE ENGINE, part 24: from what the interpreter says of a function to what the model's call does.
-/
set_option linter.unusedVariables false
set_option linter.unusedSimpArgs false
namespace Go.Eng
open Go.RowKit
theorem t1P (b:Nat):∀(vs:List Value) (asq:List AV),(∀a∈asq,NoOwn a)→tcs b vs asq=0
 |[],_,_=>by simp [tcs,zsum]
 |_::_,[],_=>by simp [tcs,zsum]
 |v::vs,a::asq,h=>by
  have h1:=(h a (by simp)).tc b v
  have h2:=t1P b vs asq (fun x hx=>h x (by simp [hx]))
  simp only[tcs,zsum] at h2⊢
  omega
theorem e2l {P:Program} {cfg:FuncId→FCfg} {ext:Ext} {I0:Mem} {f:FuncId} {args:List AV} {W:World} {cargs:Array Value} {v:Value} {m:RM} {H':Heap} (hmix:P.follows .mixedOrders=true)
  (hng:(P.funcs.toList.all fun fn=> !(fn.name== "runtime.NumGoroutine"))=true) (h:ev P cfg ext f args .none []=some ⟨.ret (.val v),m,H'⟩) (hext:r1Q P I0 ext) (hextb:∀(f:FuncId) e,ext f=some e→∃(fn:Func) (c:Code),P.funcs[f]? =some fn∧fn.body=some c) (hI:LeM I0 (k1V W))
  (hr:RepL (k1V W) [] cargs.toList args) (hno:∀a∈args,NoOwn a):Calls P f cargs W fun e W'=>e=.returned v∧Below W.heap.size W W':=by
 obtain⟨k,hk⟩:=o1N.1 h
 have hng':∀(f:FuncId) (fn:Func),P.funcs[f]? =some fn→(fn.name== "runtime.NumGoroutine")=false:=by
  intro f fn hf
  have:=List.all_eq_true.1 hng fn (Array.mem_toList_iff.2 (Array.mem_of_getElem? hf))
  simpa using this
 have h0:∀b,c1E [] [] [] cargs.toList args b=0:=by
  intro b
  unfold c1E
  rw[t1P b _ _ hno]
  first|done|simp [tcss,zsum]
 obtain⟨_,hc⟩:=v1G (cfg:=cfg) hmix hng' hext hextb k f args .none [] _ hk (k1V W) [] [] W cargs.toList hI (hinv0 W) hr
  (fun i v a _ ha=>(hno a (List.mem_of_getElem? ha)).spare W v) (fun b=>by rw[h0 b];omega)
 simp only at hc
 refine hc.mono fun e W' ⟨J,ν,HV',hp⟩=>?_
 obtain⟨v',rfl,hv,_⟩:=hp.outr
 have hvv:v'=v:=by cases hv;rfl
 refine⟨by rw[hvv],hp.eff.os,hp.eff.tape,hp.eff.output,hp.eff.size,fun k hk=>hp.eff.keep k hk fun h=>?_⟩
 rw[h0 k] at h;omega
end Go.Eng
end
