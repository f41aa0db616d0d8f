/- Texts of this proof folded into one: P4 Z5 R0 G1 G2 G3 G4 G5 G6 G7 G8 G9 G10 TD R1 G12 U1 Z4 Z7 RX1. -/
import Derived.Test.YtmdjdcnabbapgaaGreatDoorW7
import Derived.Lib.Join
import Derived.Test.YtmdjdcnabbapgaaGreatDoorW14
import Derived.Test.YtmdjdcnabbapgaaGreatDoorW6
import Derived.Test.YtmdjdcnabbapgaaGreatDoorW12
section
/- LEX, plain: more of texts in pieces: places, joined tokens. -/
set_option linter.unusedVariables false
set_option linter.unusedSimpArgs false
namespace Go.Lx
variable {res:T→Bool}
theorem Pieces.places {l:T} {a:Nat} {ts:List Tok} (h:Pieces res l a ts):∀t∈ts,a≤t.at_∧t.at_+t.text.length≤a+l.length:=by
 induction h with
 |nil _=>intro t h;cases h
 | @cons b x l a k v ts hb h1 hh ho _ ih=>
  intro t ht
  rw[List.mem_cons] at ht
  rcases ht with rfl|ht
  ·simp;omega
  ·have:=ih t ht
   simp;omega
theorem r1y (x y:T) (r:List T):Lib.join (x::y::r) [32]=x++(32::Lib.join (y::r) [32]):=by
 simp [Lib.join,List.intercalate,List.intersperse]
theorem Pieces.join_len {l:T} {a:Nat} {ts:List Tok} (h:Pieces res l a ts):(Lib.join (ts.map (·.text)) [32]).length≤l.length+ts.length:=by
 induction h with
 |nil _=>simp [Lib.join,List.intercalate]
 | @cons b x l a k v ts hb h1 hh ho _ ih=>
  cases ts with
  |nil=>simp [Lib.join,List.intercalate];omega
  |cons u us=>
   simp only[List.map_cons] at ih⊢
   rw[r1y]
   simp at ih⊢;omega
theorem Pieces.join {l:T} {a:Nat} {ts:List Tok} (h:Pieces res l a ts):∀b,∃us,Pieces res (Lib.join (ts.map (·.text)) [32]) b us∧us.map key=ts.map key:=by
 induction h with
 |nil _=>intro b;exact⟨[],.nil (by rw[List.map_nil];exact Blk.nil),rfl⟩
 | @cons b x l a k v ts hb h1 hh ho _ ih=>
  intro c
  cases ts with
  |nil=>
   have hc:Ctx l []:=.inl rfl
   have hht:=o1k (z:=[]) h1 hh
   have:=Pieces.cons (res:=res) (b:=[]) (a:=c) Blk.nil (s1v h1 hc) hht.1 (m1a hht.2 ho hc) (Pieces.nil Blk.nil)
   refine⟨[⟨k,x,v,c+([]:T).length⟩],?_,?_⟩
   ·simpa [Lib.join,List.intercalate] using this
   ·simp [key]
  |cons u us=>
   simp only[List.map_cons] at ih⊢
   rw[r1y]
   obtain⟨vs,q1,q2⟩:=ih (c+x.length+1)
   have q3:Pieces res (32::Lib.join (u.text::us.map (·.text)) [32]) (c+x.length) vs:=Pieces.blk (b:=[32]) (Blk.cons (by decide) Blk.nil) q1
   have hc:Ctx l (32::Lib.join (u.text::us.map (·.text)) [32]):=.inl rfl
   have hht:=o1k (z:=32::Lib.join (u.text::us.map (·.text)) [32]) h1 hh
   have:=Pieces.cons (res:=res) (b:=[]) (a:=c) Blk.nil (s1v h1 hc) hht.1 (m1a hht.2 ho hc) (by simpa using q3)
   exact⟨_,by simpa using this,by simp [key,q2]⟩
theorem h2x {l:T} {e:Nat} (h:one res l=.error e):e≠0:=by
 cases l with
 |nil=>simp [one] at h;omega
 |cons c r=>
  unfold one at h
  simp only at h
  repeat' split at h
  all_goals (first|(injection h with h;omega)|cases h)
theorem j2r:∀{l:T} {a cnt p e:Nat},lx res l a cnt=.error (p,e)→e≠0∧p≤a+l.length:=by
 intro l
 induction h:l.length using Nat.strongRecOn generalizing l with
 |ind m ih=>
  intro a cnt p e hl
  have hsb:=p1D (l:=l)
  rw[c2a] at hl
  split at hl
  ·injection hl with hl;injection hl with h1 h2;omega
  ·split at hl
   ·cases hl
   ·rename_i c r hd
    have hlen:=congrArg List.length hd
    simp at hlen
    split at hl
    ·rename_i e' h1
     injection hl with hl;injection hl with h2 h3
     have:=h2x h1
     subst h3;exact⟨this,by omega⟩
    ·rename_i k n v h1
     split at hl
     ·injection hl with hl;injection hl with h1 h2;omega
     ·obtain⟨b1,b2,_⟩:=f1A h1
      simp only[List.length_cons] at b2
      cases hx:lx res (r.drop (n-1)) (a+(skp l).1+n) (cnt+1) with
      |ok us=>rw[hx] at hl;cases hl
      |error q=>
       obtain⟨q1,q2⟩:=q
       rw[hx] at hl
       injection hl with hl;injection hl with h2 h3
       subst h2 h3
       have:=ih (r.drop (n-1)).length (by simp;omega) rfl hx
       simp at this;exact⟨this.1,by omega⟩
end Go.Lx
end

section
/- LEX: the laws without the document's answer: LexCovers, LexBlanks, LexSplits, LexBack -/
open Go Go.Eng Go.Lx
namespace Go.Proofs
set_option linter.unusedVariables false
set_option linter.unusedSimpArgs false
set_option maxRecDepth 100000
theorem e2d {s:ByteArray} {ts:List Tok} (h:lexA s=.ok ts):s.size≤4096∧Pieces resP (tx s) 0 ts∧ts.length≤1024:=by
 unfold lexA at h
 split at h
 ·cases h
 ·obtain⟨h1,h2⟩:=c2e (by omega) h
  exact⟨by omega,h1,by omega⟩
theorem i2t {s:ByteArray} {ts:List Tok} (hs:s.size≤4096) (h:Pieces resP (tx s) 0 ts) (hl:ts.length≤1024):lexA s=.ok ts:=by
 unfold lexA
 rw[if_neg (by omega)]
 exact c2f h (by omega)
theorem t1A {s:ByteArray} {p e:Nat} (h:lexA s=.error (p,e)):e≠0∧p≤s.size:=by
 unfold lexA at h
 split at h
 ·injection h with h;injection h with h1 h2;omega
 ·have:=j2r h
  rw[d1J] at this;exact⟨this.1,by omega⟩
section
variable {QD:List (St→Prop)} {QR:CRes→Prop}
theorem e2e {l:List (List AV)} {k:Nat} {t:Tok} {K:Int→ByteArray→Int→Int→KT} (h:l[k]? =some (tokRow t)) (hk:(K t.kind ⟨t.text.toArray⟩ t.n t.at_).wp Pg cfg0 evp QD QR):
  (KT.exI fun i=>.exS fun s=>.exI fun j=>.exI fun m=>.row l (k:Int) [vI i,vS s,vI j,vI m] (K i s j m)).wp Pg cfg0 evp QD QR:=
 ⟨_,_,_,_,⟨Int.natCast_nonneg k,by rw[Int.toNat_natCast];exact h⟩,hk⟩
theorem e2f {s:ByteArray} {K:List (List AV)→Int→Int→KT} (hok:∀ts,lexA s=.ok ts→(K (ts.map tokRow) 0 0).wp Pg cfg0 evp QD QR) (herr:∀p e,lexA s=.error (p,e)→(K [] p e).wp Pg cfg0 evp QD QR):
  (KT.exR fun l=>.exI fun i=>.exI fun i1=>.call c1N [vS s] .none [] ⟨.ret (.tuple [.slice 4 l .no,vI i,vI i1]),.none,[]⟩ (K l i i1)).wp Pg cfg0 evp QD QR:=by
 have h:=c_Lex s
 cases hx:lexA s with
 |ok ts=>rw[hx] at h;exact⟨_,_,_,h,hok ts hx⟩
 |error e=>obtain⟨p,e⟩:=e;rw[hx] at h;exact⟨_,_,_,h,herr p e hx⟩
end
theorem ne0 {e:Nat} (h:e≠0):((e:Int)!=0)=true:=by simp;omega
end Go.Proofs
end

section
/- PARSE: contracts in a heap of one block hold where there are more -/
set_option linter.unusedVariables false
set_option linter.unusedSimpArgs false
open Go Go.Eng
namespace Go.Eng
theorem PExt.extR {g:PExt} (hg:∀f e,g f=some e→∀args v,e args=some v→∀ρ:Nat→Nat,e (args.map (AV.ren ρ))=some (v.ren ρ)) {ρ:Nat→Nat} {n N:Nat} {F:Heap}:ExtR ρ n N F g.ext:=by
 intro f e he args H out H' heq K hK
 unfold PExt.ext at he
 rw[Option.map_eq_some_iff] at he
 obtain⟨e0,he0,rfl⟩:=he
 rw[Option.map_eq_some_iff] at heq
 obtain⟨v,hv,heq⟩:=heq
 injection heq with e1 e2
 subst e1 e2
 exact⟨K,by simp only[hg f e0 he0 args v hv ρ,Option.map_some,g1B],hK⟩
def rho1 (k:Nat) (i:Nat):Nat:=if i=0 then 0 else i+k
def Inv1 (l:List AV):Prop:=∀k,l.map (AV.ren (rho1 k))=l
theorem f2a {P:Program} {cfg:FuncId→FCfg} {g:PExt} (hg:∀f e,g f=some e→∀args v,e args=some v→∀ρ:Nat→Nat,e (args.map (AV.ren ρ))=some (v.ren ρ)) {f:FuncId} {args:List AV} {o:Out} {B B':List AV} {K:Heap} (h:ev P cfg g.ext f args .none [B]=some ⟨o,.none,[B']⟩)
  (ha:Inv1 args) (hB:Inv1 B) (hB':Inv1 B') (ho:∀k,g1B (rho1 k) o=o) (hk:lowss (1+K.length) K=true):ev P cfg g.ext f args .none (B::K)=some ⟨o,.none,B'::K⟩:=by
 have hf:Fr (rho1 K.length) 1 (1+K.length) (B::K):=⟨fun i hi=>by simp only[rho1,if_pos (show i=0 by omega)];omega,fun i hi=>by simp only[rho1];rw[if_neg (by omega)];omega,fun i j hi hj _=>by omega,fun j cs hj hlt hne=>by
  rw[j1Y,List.all_eq_true] at hk
  cases j with
  |zero=>exact absurd rfl (hne 0 (by omega))
  |succ j=>exact hk cs (List.mem_of_getElem? (by simpa using hj))⟩
 obtain⟨r,h1,h2⟩:=g2c hf (PExt.extR hg) f args .none [B] _ h (B::K) ⟨by simp,by simp;omega,fun i=>by
  cases i with
  |zero=>simp [rho1,hB K.length]
  |succ i=>simp only[rho1];rw[if_neg (by omega),List.getElem?_eq_none (by simp;omega),List.getElem?_eq_none (by simp)];rfl,fun j hj _=>rfl⟩
 rw[ha K.length] at h1
 have e0:h1y (rho1 K.length) .none=.none:=rfl
 rw[e0] at h1
 rw[h1]
 obtain⟨o',rm',H'⟩:=r
 have e1:=h2.o
 have e2:=h2.rm
 simp only[ho] at e1 e2
 have e3:H'=B'::K:=by
  apply List.ext_getElem?
  intro j
  have hl:=h2.H.len
  simp at hl
  cases j with
  |zero=>
   have:=h2.H.im 0
   simp only[rho1,if_true,List.getElem?_cons_zero,Option.map_some] at this
   have e:=hB' K.length
   rw[this,e];rfl
  |succ j=>
   rcases Nat.lt_or_ge (j+1) (1+K.length) with hj|hj
   ·rw[h2.H.off (j+1) hj fun i hi=>by simp [rho1,show i=0 by omega]];simp
   ·rw[List.getElem?_eq_none (by omega),List.getElem?_eq_none (by simp;omega)]
 rw[e1,e2,e3];rfl
end Go.Eng
end

section
/- PARSE, plain: what tokens are asq types, patterns, expressions (chapter 5), by fuel; z: the place of the text's end -/
set_option linter.unusedVariables false
set_option linter.unusedSimpArgs false
namespace Go.Pa
open Go.Lx (T Tok)
inductive Ty where
 |var (n:T)
 |con (p:List T)
 |fn (a b:Ty)
 |pair (a b:Ty)
 deriving Inhabited
inductive Pat where
 |any
 |var (n:T)
 |int (n:Nat)
 |tru
 |fls
 |unit
 |pair (a b:Pat)
 |con (p:List T)
 |conA (p:List T) (a:Pat)
 deriving Inhabited
mutual
inductive Exp where
 |int (n:Nat)
 |tru
 |fls
 |unit
 |var (p:List T)
 |con (p:List T)
 |fn (p:Pat) (x:Exp)
 |app (f x:Exp)
 |pair (a b:Exp)
 |lets (l:List Dec) (x:Exp)
 |ite (c a b:Exp)
 |cases (x:Exp) (l:List (Pat×Exp))
 |bin (op:Nat) (a b:Exp)
 |ann (x:Exp) (t:Ty)
inductive Dec where
 |val (at_:Nat) (n:T) (t:Option Ty) (x:Exp)
 |func (at_:Nat) (n:T) (ps:List T) (t:Option Ty) (x:Exp)
end
instance:Inhabited Exp:=⟨.unit⟩
instance:Inhabited Dec:=⟨.val 0 [] none .unit⟩
inductive Res (α:Type) where
 |ok (a:α) (r:List Tok)
 |no (e at_:Nat)
def Res.bind {α β:Type} (x:Res α) (f:α→List Tok→Res β):Res β:=
 match x with
 | .ok a r=>f a r
 | .no e p=>.no e p
def pl (z:Nat):List Tok→Nat
 |[]=>z
 |t::_=>t.at_
def isW (w:T):List Tok→Bool
 |[]=>false
 |t::_=>(t.kind==3||t.kind==6)&&decide (t.text=w)
def ofK (k:Nat):List Tok→Bool
 |[]=>false
 |t::_=>t.kind==k
def txt:List Tok→T
 |[]=>[]
 |t::_=>t.text
def num:List Tok→Nat
 |[]=>0
 |t::_=>t.n
def need (z:Nat) (w:T) (l:List Tok):Res Unit:=if isW w l then .ok () l.tail else .no 11 (pl z l)
def taken (z k:Nat):List Tok→Res T
 |[]=>.no 11 z
 |t::r=>if t.kind==k then .ok t.text r else .no 11 t.at_
def wDot:T:=[46]
def x1y:T:=[45,62]
def n1W:T:=[42]
def wOpen:T:=[40]
def wClose:T:=[41]
def wComma:T:=[44]
def p1v:T:=[58]
def wEq:T:=[61]
def wLt:T:=[60]
def y1S:T:=[43]
def r1s:T:=[45]
def r1t:T:=[47]
def wBar:T:=[124]
def wDo:T:=[61,62]
def wAny:T:=[95]
def wInt:T:=[105,110,116]
def b2I:T:=[98,111,111,108]
def b2J:T:=[117,110,105,116]
def l1Z:T:=[116,114,117,101]
def h1M:T:=[102,97,108,115,101]
def wFn:T:=[102,110]
def wIf:T:=[105,102]
def g2Y:T:=[116,104,101,110]
def g2Z:T:=[101,108,115,101]
def wLet:T:=[108,101,116]
def wIn:T:=[105,110]
def wEnd:T:=[101,110,100]
def q1H:T:=[99,97,115,101]
def wOf:T:=[111,102]
def wVal:T:=[118,97,108]
def wFun:T:=[102,117,110]
def path (z:Nat) (lower upper:Bool) (start:Nat) (p:List T):List Tok→Res (List T×Bool)
 |[]=>.no 11 z
 |t::l=>
  if t.kind==2||(t.kind==1&&lower) then
   if 8<p.length+1 then .no 3 start
   else if t.kind==1 then .ok (p++[t.text],true) l
   else match l with
    |[]=>if upper then .ok (p++[t.text],false) [] else .no 11 z
    |d::l'=>if isW wDot [d] then path z lower upper start (p++[t.text]) l'
      else if upper then .ok (p++[t.text],false) (d::l') else .no 11 d.at_
  else .no 11 t.at_
mutual
def pTy (z:Nat):Nat→List Tok→Res Ty
 |0,_=>.no 0 0
 |n+1,l=>(h1g z n l).bind fun t r=>if isW x1y r then (pTy z n r.tail).bind fun u r=>.ok (.fn t u) r else .ok t r
def h1g (z:Nat):Nat→List Tok→Res Ty
 |0,_=>.no 0 0
 |n+1,l=>(pAty z n l).bind fun t r=>e1s z n t r
def e1s (z:Nat):Nat→Ty→List Tok→Res Ty
 |0,_,_=>.no 0 0
 |n+1,t,l=>if isW n1W l then (pAty z n l.tail).bind fun u r=>e1s z n (.pair t u) r else .ok t l
def pAty (z:Nat):Nat→List Tok→Res Ty
 |0,_=>.no 0 0
 |n+1,l=>
  if isW wInt l then .ok (.con [wInt]) l.tail
  else if isW b2I l then .ok (.con [b2I]) l.tail
  else if isW b2J l then .ok (.con [b2J]) l.tail
  else if ofK 5 l then .ok (.var ((txt l).drop 1)) l.tail
  else if isW wOpen l then (pTy z n l.tail).bind fun t r=>(need z wClose r).bind fun _ r=>.ok t r
  else (path z true false (pl z l) [] l).bind fun x r=>.ok (.con x.1) r
end
def begP (l:List Tok):Bool:=ofK 1 l||(ofK 2 l||(ofK 4 l||(isW wAny l||(isW l1Z l||(isW h1M l||isW wOpen l)))))
mutual
def pPat (z:Nat):Nat→List Tok→Res Pat
 |0,_=>.no 0 0
 |n+1,l=>
  if ofK 2 l then (path z false true (pl z l) [] l).bind fun x r=>if begP r then (pAp z n r).bind fun a r=>.ok (.conA x.1 a) r else .ok (.con x.1) r
  else pAp z n l
def pAp (z:Nat):Nat→List Tok→Res Pat
 |0,_=>.no 0 0
 |n+1,l=>
  if isW wAny l then .ok .any l.tail
  else if isW l1Z l then .ok .tru l.tail
  else if isW h1M l then .ok .fls l.tail
  else if ofK 4 l then .ok (.int (num l)) l.tail
  else if ofK 1 l then .ok (.var (txt l)) l.tail
  else if ofK 2 l then (path z false true (pl z l) [] l).bind fun x r=>.ok (.con x.1) r
  else (need z wOpen l).bind fun _ l=>
   if isW wClose l then .ok .unit l.tail
   else (pPat z n l).bind fun p r=>
    if isW wComma r then (pPat z n r.tail).bind fun q r=>(need z wClose r).bind fun _ r=>.ok (.pair p q) r
    else (need z wClose r).bind fun _ r=>.ok p r
end
def begE (l:List Tok):Bool:=ofK 4 l||(ofK 1 l||(ofK 2 l||(isW l1Z l||(isW h1M l||(isW wOpen l||(isW wLet l||isW q1H l))))))
def opAt (lv:Nat) (l:List Tok):Nat:=
 match lv with
 |0=>if isW wEq l then 5 else if isW wLt l then 6 else 0
 |1=>if isW y1S l then 1 else if isW r1s l then 2 else 0
 |_=>if isW n1W l then 3 else if isW r1t l then 4 else 0
def params (z:Nat):List T→List Tok→List T×List Tok
 |ps,[]=>(ps,[])
 |ps,t::l=>if t.kind==1 then params z (ps++[t.text]) l else (ps,t::l)
mutual
def pExp (z:Nat):Nat→List Tok→Res Exp
 |0,_=>.no 0 0
 |n+1,l=>
  if isW wFn l then (pPat z n l.tail).bind fun p r=>(need z wDo r).bind fun _ r=>(pExp z n r).bind fun x r=>.ok (.fn p x) r
  else if isW wIf l then (pExp z n l.tail).bind fun c r=>(need z g2Y r).bind fun _ r=>(pExp z n r).bind fun a r=>(need z g2Z r).bind fun _ r=>(pExp z n r).bind fun b r=>.ok (.ite c a b) r
  else pBin z n 0 l
def pBin (z:Nat):Nat→Nat→List Tok→Res Exp
 |0,_,_=>.no 0 0
 |n+1,lv,l=>if lv==3 then pApp z n l else (pBin z n (lv+1) l).bind fun x r=>pOps z n lv x r
def pOps (z:Nat):Nat→Nat→Exp→List Tok→Res Exp
 |0,_,_,_=>.no 0 0
 |n+1,lv,x,l=>
  if opAt lv l==0 then .ok x l
  else (pBin z n (lv+1) l.tail).bind fun y r=>if lv==0 then .ok (.bin (opAt lv l) x y) r else pOps z n lv (.bin (opAt lv l) x y) r
def pApp (z:Nat):Nat→List Tok→Res Exp
 |0,_=>.no 0 0
 |n+1,l=>(f1r z n l).bind fun x r=>g1M z n x r
def g1M (z:Nat):Nat→Exp→List Tok→Res Exp
 |0,_,_=>.no 0 0
 |n+1,x,l=>if begE l then (f1r z n l).bind fun y r=>g1M z n (.app x y) r else .ok x l
def f1r (z:Nat):Nat→List Tok→Res Exp
 |0,_=>.no 0 0
 |n+1,l=>
  if ofK 4 l then .ok (.int (num l)) l.tail
  else if isW wLet l then (i1g z n [] l.tail).bind fun ds r=>(need z wIn r).bind fun _ r=>(pExp z n r).bind fun x r=>(need z wEnd r).bind fun _ r=>.ok (.lets ds x) r
  else if isW q1H l then (pExp z n l.tail).bind fun x r=>(need z wOf r).bind fun _ r=>(e1t z n [] (if isW wBar r then r.tail else r)).bind fun bs r=>.ok (.cases x bs) r
  else if isW l1Z l then .ok .tru l.tail
  else if isW h1M l then .ok .fls l.tail
  else if ofK 1 l||ofK 2 l then (path z true true (pl z l) [] l).bind fun x r=>.ok (if x.2 then .var x.1 else .con x.1) r
  else (need z wOpen l).bind fun _ l=>
   if isW wClose l then .ok .unit l.tail
   else (pExp z n l).bind fun x r=>
    if isW wComma r then (pExp z n r.tail).bind fun y r=>(need z wClose r).bind fun _ r=>.ok (.pair x y) r
    else if isW p1v r then (pTy z n r.tail).bind fun t r=>(need z wClose r).bind fun _ r=>.ok (.ann x t) r
    else (need z wClose r).bind fun _ r=>.ok x r
def e1t (z:Nat):Nat→List (Pat×Exp)→List Tok→Res (List (Pat×Exp))
 |0,_,_=>.no 0 0
 |n+1,bs,l=>(pPat z n l).bind fun p r=>(need z wDo r).bind fun _ r=>(pExp z n r).bind fun x r=>
   if isW wBar r then e1t z n (bs++[(p,x)]) r.tail else (need z wEnd r).bind fun _ r=>.ok (bs++[(p,x)]) r
def i1g (z:Nat):Nat→List Dec→List Tok→Res (List Dec)
 |0,_,_=>.no 0 0
 |n+1,ds,l=>if isW wVal l||isW wFun l then (pDec z n l).bind fun d r=>i1g z n (ds++[d]) r else .ok ds l
def pDec (z:Nat):Nat→List Tok→Res Dec
 |0,_=>.no 0 0
 |n+1,l=>
  if isW wVal l then (taken z 1 l.tail).bind fun nm r=>(h1h z n r).bind fun b r=>.ok (.val (pl z l) nm b.1 b.2) r
  else (need z wFun l).bind fun _ r=>(taken z 1 r).bind fun nm r=>(taken z 1 r).bind fun p r=>(h1h z n (params z [p] r).2).bind fun b r'=>.ok (.func (pl z l) nm (params z [p] r).1 b.1 b.2) r'
def h1h (z:Nat):Nat→List Tok→Res (Option Ty×Exp)
 |0,_=>.no 0 0
 |n+1,l=>
  if isW p1v l then (pTy z n l.tail).bind fun t r=>(need z wEq r).bind fun _ r=>(pExp z n r).bind fun x r=>.ok (some t,x) r
  else (need z wEq l).bind fun _ r=>(pExp z n r).bind fun x r=>.ok (none,x) r
end
def whole {α:Type} (z:Nat) (x:Res α):Except (Nat×Nat) α:=
 match x with
 | .no e p=>.error (p,e)
 | .ok a []=>.ok a
 | .ok a (t::_)=>.error (t.at_,11)
end Go.Pa
end

section
/- PARSE, plain: rules take tokens: what is left is less -/
set_option linter.unusedVariables false
set_option linter.unusedSimpArgs false
namespace Go.Pa
open Go.Lx (T Tok)
theorem e1Z {α β:Type} {x:Res α} {f:α→List Tok→Res β} {b:β} {r:List Tok}:x.bind f=.ok b r↔∃a r1,x=.ok a r1∧f a r1=.ok b r:=by
 cases x with
 |ok a r1=>exact⟨fun h=>⟨a,r1,rfl,h⟩,fun ⟨_,_,e,h⟩=>(by cases e;exact h)⟩
 |no e p=>exact⟨fun h=>(by cases h),fun ⟨_,_,e,_⟩=>(by cases e)⟩
theorem b1k {w:T} {l:List Tok} (h:isW w l=true):l.tail.length<l.length:=by
 cases l with
 |nil=>cases h
 |cons t l=>simp
theorem p1y {k:Nat} {l:List Tok} (h:ofK k l=true):l.tail.length<l.length:=by
 cases l with
 |nil=>cases h
 |cons t l=>simp
theorem c1H {z:Nat} {w:T} {l r:List Tok} {u:Unit} (h:need z w l=.ok u r):r.length<l.length:=by
 unfold need at h
 split at h
 ·rename_i hw;injection h with _ h;subst h;exact b1k hw
 ·cases h
theorem k1f {z k:Nat} {l r:List Tok} {x:T} (h:taken z k l=.ok x r):r.length<l.length:=by
 cases l with
 |nil=>cases h
 |cons t l=>
  simp only[taken] at h
  split at h
  ·injection h with _ h;subst h;simp
  ·cases h
theorem s1m {z:Nat} {lower upper:Bool} {start:Nat}:∀(k:Nat) {l r:List Tok} {p:List T} {x:List T×Bool},l.length≤k→path z lower upper start p l=.ok x r→r.length<l.length:=by
 intro k
 induction k with
 |zero=>intro l r p x hk h;cases l with
  |nil=>unfold path at h;cases h
  |cons t l=>simp at hk
 |succ k ih=>
  intro l r p x hk h
  cases l with
  |nil=>unfold path at h;cases h
  |cons t l=>
   unfold path at h
   split at h
   ·split at h
    ·cases h
    ·split at h
     ·injection h with _ h;subst h;simp
     ·split at h
      ·split at h
       ·injection h with _ h;subst h;simp
       ·cases h
      ·rename_i d l'
       split at h
       ·have:=ih (by simp at hk;omega) h
        simp;omega
       ·split at h
        ·injection h with _ h;subst h;simp
        ·cases h
   ·cases h
theorem y1V:∀(l:List Tok) (ps:List T),(params 0 ps l).2.length≤l.length:=by
 intro l
 induction l with
 |nil=>intro ps;simp [params]
 |cons t l ih=>
  intro ps
  rw[params]
  split
  ·have:=ih (ps++[t.text]);simp;omega
  ·simp
theorem e2D (z:Nat):∀(l:List Tok) (ps:List T),params z ps l=params 0 ps l:=by
 intro l
 induction l with
 |nil=>intro ps;simp [params]
 |cons t l ih=>intro ps;rw[params,params,ih]
structure LenT (z n:Nat):Prop where
 ty:∀{l r x},pTy z n l=.ok x r→r.length<l.length
 pair:∀{l r x},h1g z n l=.ok x r→r.length<l.length
 pairs:∀{t l r x},e1s z n t l=.ok x r→r.length≤l.length
 aty:∀{l r x},pAty z n l=.ok x r→r.length<l.length
theorem lenT (z:Nat):∀n,LenT z n:=by
 intro n
 induction n with
 |zero=>exact⟨fun h=>(by rw[pTy] at h;cases h),fun h=>(by rw[h1g] at h;cases h),fun h=>(by rw[e1s] at h;cases h),fun h=>(by rw[pAty] at h;cases h)⟩
 |succ n ih=>
  refine⟨fun {l r x} h=>?_,fun {l r x} h=>?_,fun {t l r x} h=>?_,fun {l r x} h=>?_⟩
  ·rw[pTy,e1Z] at h
   obtain⟨a,r1,h1,h⟩:=h
   have k1:=ih.pair h1
   split at h
   ·rename_i hw
    have:=b1k hw
    obtain⟨b,r2,h2,h⟩:=e1Z.1 h
    injection h with _ h;subst h
    have:=ih.ty h2;omega
   ·injection h with _ h;subst h;exact k1
  ·rw[h1g,e1Z] at h
   obtain⟨a,r1,h1,h⟩:=h
   have k1:=ih.aty h1
   have:=ih.pairs h;omega
  ·rw[e1s] at h
   split at h
   ·rename_i hw
    have:=b1k hw
    obtain⟨b,r2,h2,h⟩:=e1Z.1 h
    have:=ih.aty h2
    have:=ih.pairs h;omega
   ·injection h with _ h;subst h;exact Nat.le_refl _
  ·rw[pAty] at h
   split at h
   ·rename_i hw;injection h with _ h;subst h;exact b1k hw
   ·split at h
    ·rename_i hw;injection h with _ h;subst h;exact b1k hw
    ·split at h
     ·rename_i hw;injection h with _ h;subst h;exact b1k hw
     ·split at h
      ·rename_i hw;injection h with _ h;subst h;exact p1y hw
      ·split at h
       ·rename_i hw
        have:=b1k hw
        obtain⟨b,r2,h2,h⟩:=e1Z.1 h
        obtain⟨u,r3,h3,h⟩:=e1Z.1 h
        injection h with _ h;subst h
        have:=ih.ty h2
        have:=c1H h3;omega
       ·obtain⟨b,r2,h2,h⟩:=e1Z.1 h
        injection h with _ h;subst h
        exact s1m _ (Nat.le_refl _) h2
end Go.Pa
end

section
/- PARSE, plain: what is left is less: patterns, expressions -/
set_option linter.unusedVariables false
set_option linter.unusedSimpArgs false
namespace Go.Pa
open Go.Lx (T Tok)
def Sh {α:Type} (x:Res α) (k:Nat):Prop:=∀a r,x=.ok a r→r.length<k
theorem Sh.ok {α:Type} {a:α} {r:List Tok} {k:Nat} (h:r.length<k):Sh (.ok a r) k:=fun _ _ e=>by injection e with _ e;subst e;exact h
theorem Sh.no {α:Type} {e p k:Nat}:Sh (.no e p:Res α) k:=fun _ _ e=>by cases e
theorem Sh.bind {α β:Type} {x:Res α} {f:α→List Tok→Res β} {j k:Nat} (h:Sh x j) (hf:∀a r,r.length<j→Sh (f a r) k):Sh (x.bind f) k:=fun b r e=>by
 obtain⟨a,r1,h1,h2⟩:=e1Z.1 e
 exact hf a r1 (h a r1 h1) b r h2
theorem Sh.ite {α:Type} {c:Prop} [Decidable c] {x y:Res α} {k:Nat} (h1:c→Sh x k) (h2:¬c→Sh y k):Sh (if c then x else y) k:=by
 split
 ·exact h1 ‹_›
 ·exact h2 ‹_›
theorem Sh.need {z:Nat} {w:T} {l:List Tok}:Sh (need z w l) l.length:=fun _ _ e=>c1H e
theorem Sh.taken {z k:Nat} {l:List Tok}:Sh (taken z k l) l.length:=fun _ _ e=>k1f e
theorem Sh.path {z:Nat} {a b:Bool} {s:Nat} {p:List T} {l:List Tok}:Sh (path z a b s p l) l.length:=fun _ _ e=>s1m _ (Nat.le_refl _) e
theorem Sh.ty {z n:Nat} {l:List Tok}:Sh (pTy z n l) l.length:=fun _ _ e=>(lenT z n).ty e
theorem h1j (l:List Tok):l.tail.length≤l.length:=by cases l<;>simp
structure LenP (z n:Nat):Prop where
 pat:∀{l},Sh (pPat z n l) l.length
 ap:∀{l},Sh (pAp z n l) l.length
theorem lenP (z:Nat):∀n,LenP z n:=by
 intro n
 induction n with
 |zero=>exact⟨fun {l}=>(by rw[pPat];exact Sh.no),fun {l}=>(by rw[pAp];exact Sh.no)⟩
 |succ n ih=>
  constructor
  ·intro l
   rw[pPat]
   repeat' first
    |exact ih.ap
    |refine Sh.ite (fun hw=>?_) (fun hw=>?_)
    |refine Sh.bind Sh.path (fun a r h=>?_)
    |refine Sh.bind ih.ap (fun a r h=>?_)
    |(refine Sh.ok ?_;omega)
  ·intro l
   have ht:=h1j l
   rw[pAp]
   repeat' first
    |(refine Sh.ite (fun hw=>?_) (fun hw=>?_))
    |(refine Sh.ok ?_;have:=b1k ‹_›;omega)
    |(refine Sh.ok ?_;have:=p1y ‹_›;omega)
    |refine Sh.bind Sh.path (fun a r h=>?_)
    |refine Sh.bind Sh.need (fun a r h=>?_)
    |refine Sh.bind ih.pat (fun a r h=>?_)
    |(refine Sh.ok ?_;omega)
    |(refine Sh.ok ?_;rename_i r _ _;have:=h1j r;omega)
structure LenE (z n:Nat):Prop where
 exp:∀{l},Sh (pExp z n l) l.length
 bin:∀{lv l},Sh (pBin z n lv l) l.length
 ops:∀{lv x l},Sh (pOps z n lv x l) (l.length+1)
 app:∀{l},Sh (pApp z n l) l.length
 apps:∀{x l},Sh (g1M z n x l) (l.length+1)
 atom:∀{l},Sh (f1r z n l) l.length
 cases:∀{bs l},Sh (e1t z n bs l) l.length
 decs:∀{ds l},Sh (i1g z n ds l) (l.length+1)
 dec:∀{l},Sh (pDec z n l) l.length
 body:∀{l},Sh (h1h z n l) l.length
theorem x1B {lv:Nat} {l:List Tok} (h:¬(opAt lv l==0)=true):l.tail.length<l.length:=by
 cases l with
 |nil=>exfalso;apply h;unfold opAt;split<;>rfl
 |cons t l=>simp
theorem e2E {l:List Tok} (h:begE l=true):l.tail.length<l.length:=by
 cases l with
 |nil=>cases h
 |cons t l=>simp
theorem lenE (z:Nat):∀n,LenE z n:=by
 intro n
 induction n with
 |zero=>exact⟨fun {l}=>(by rw[pExp];exact Sh.no),fun {lv l}=>(by rw[pBin];exact Sh.no),fun {lv x l}=>(by rw[pOps];exact Sh.no),fun {l}=>(by rw[pApp];exact Sh.no),fun {x l}=>(by rw[g1M];exact Sh.no),fun {l}=>(by rw[f1r];exact Sh.no),fun {bs l}=>(by rw[e1t];exact Sh.no),fun {ds l}=>(by rw[i1g];exact Sh.no),fun {l}=>(by rw[pDec];exact Sh.no),fun {l}=>(by rw[h1h];exact Sh.no)⟩
 |succ n ih=>
  constructor
  ·intro l
   have ht:=h1j l
   rw[pExp]
   refine Sh.ite (fun hw=>?_) (fun hw=>Sh.ite (fun hw=>?_) (fun hw=>fun a r e=>ih.bin a r e))
   ·have:=b1k hw
    exact Sh.bind (lenP z n).pat fun a r h=>Sh.bind Sh.need fun a r h=>Sh.bind ih.exp fun a r h=>Sh.ok (by omega)
   ·have:=b1k hw
    exact Sh.bind ih.exp fun a r h=>Sh.bind Sh.need fun a r h=>Sh.bind ih.exp fun a r h=>Sh.bind Sh.need fun a r h=>Sh.bind ih.exp fun a r h=>Sh.ok (by omega)
  ·intro lv l
   rw[pBin]
   refine Sh.ite (fun hw=>fun a r e=>ih.app a r e) (fun hw=>?_)
   exact Sh.bind ih.bin fun a r h=>fun b r' e=>by have:=ih.ops b r' e;omega
  ·intro lv x l
   rw[pOps]
   refine Sh.ite (fun hw=>Sh.ok (by omega)) (fun hw=>?_)
   have:=x1B hw
   exact Sh.bind ih.bin fun a r h=>Sh.ite (fun _=>Sh.ok (by omega)) (fun _=>fun b r' e=>by have:=ih.ops b r' e;omega)
  ·intro l
   rw[pApp]
   exact Sh.bind ih.atom fun a r h=>fun b r' e=>by have:=ih.apps b r' e;omega
  ·intro x l
   rw[g1M]
   refine Sh.ite (fun hw=>?_) (fun hw=>Sh.ok (by omega))
   have:=e2E hw
   exact Sh.bind ih.atom fun a r h=>fun b r' e=>by have:=ih.apps b r' e;omega
  ·intro l
   have ht:=h1j l
   rw[f1r]
   refine Sh.ite (fun hw=>Sh.ok (p1y hw)) (fun _=>Sh.ite (fun hw=>?_) (fun _=>Sh.ite (fun hw=>?_) (fun _=>Sh.ite (fun hw=>Sh.ok (b1k hw)) (fun _=>Sh.ite (fun hw=>Sh.ok (b1k hw)) (fun _=>Sh.ite (fun hw=>?_) (fun _=>?_))))))
   ·have:=b1k hw
    exact Sh.bind ih.decs fun a r h=>Sh.bind Sh.need fun a r h=>Sh.bind ih.exp fun a r h=>Sh.bind Sh.need fun a r h=>Sh.ok (by omega)
   ·have:=b1k hw
    refine Sh.bind ih.exp fun a r h=>Sh.bind Sh.need fun a r h=>Sh.bind (ih.cases) fun a r' h'=>Sh.ok ?_
    have:=h1j r
    split at h'<;>omega
   ·exact Sh.bind Sh.path fun a r h=>Sh.ok (by omega)
   ·refine Sh.bind Sh.need fun a r h=>Sh.ite (fun hw=>Sh.ok (by have:=b1k hw;omega)) (fun _=>Sh.bind ih.exp fun a r h=>?_)
    have:=h1j r
    refine Sh.ite (fun hw=>Sh.bind ih.exp fun a r h=>Sh.bind Sh.need fun a r h=>Sh.ok (by omega)) (fun _=>Sh.ite (fun hw=>Sh.bind Sh.ty fun a r h=>Sh.bind Sh.need fun a r h=>Sh.ok (by omega)) (fun _=>Sh.bind Sh.need fun a r h=>Sh.ok (by omega)))
  ·intro bs l
   rw[e1t]
   refine Sh.bind (lenP z n).pat fun a r h=>Sh.bind Sh.need fun a r h=>Sh.bind ih.exp fun a r h=>?_
   have:=h1j r
   exact Sh.ite (fun hw=>fun b r' e=>by have:=ih.cases b r' e;omega) (fun _=>Sh.bind Sh.need fun a r h=>Sh.ok (by omega))
  ·intro ds l
   rw[i1g]
   exact Sh.ite (fun hw=>Sh.bind ih.dec fun a r h=>fun b r' e=>by have:=ih.decs b r' e;omega) (fun _=>Sh.ok (by omega))
  ·intro l
   have ht:=h1j l
   rw[pDec]
   refine Sh.ite (fun hw=>?_) (fun _=>?_)
   ·have:=b1k hw
    exact Sh.bind Sh.taken fun a r h=>Sh.bind ih.body fun a r h=>Sh.ok (by omega)
   ·refine Sh.bind Sh.need fun a r h=>Sh.bind Sh.taken fun a r h=>Sh.bind Sh.taken fun a r h=>?_
    have:=y1V r [a]
    rw[←e2D z] at this
    exact Sh.bind ih.body fun b r' h=>Sh.ok (by omega)
  ·intro l
   have ht:=h1j l
   rw[h1h]
   refine Sh.ite (fun hw=>?_) (fun _=>?_)
   ·have:=b1k hw
    exact Sh.bind Sh.ty fun a r h=>Sh.bind Sh.need fun a r h=>Sh.bind ih.exp fun a r h=>Sh.ok (by omega)
   ·exact Sh.bind Sh.need fun a r h=>Sh.bind ih.exp fun a r h=>Sh.ok (by omega)
end Go.Pa
end

section
/- PARSE, plain: more fuel changes nothing, where there is enough -/
set_option linter.unusedVariables false
set_option linter.unusedSimpArgs false
namespace Go.Pa
open Go.Lx (T Tok)
theorem Sh.pair {z n:Nat} {l:List Tok}:Sh (h1g z n l) l.length:=fun _ _ e=>(lenT z n).pair e
theorem Sh.aty {z n:Nat} {l:List Tok}:Sh (pAty z n l) l.length:=fun _ _ e=>(lenT z n).aty e
end Go.Pa
end

section
/- PARSE, plain: with tokens behind that can't go on (a closing parenthesis, a comma) a rule comes to the same, and leaves them -/
set_option linter.unusedVariables false
set_option linter.unusedSimpArgs false
namespace Go.Pa
open Go.Lx (T Tok)
structure Stop (s:List Tok):Prop where
 arrow:isW x1y s=false
 star:isW n1W s=false
 dot:isW wDot s=false
 ops:∀lv,opAt lv s=0
 begE:begE s=false
 begP:begP s=false
 val:(isW wVal s||isW wFun s)=false
 low:ofK 1 s=false
def Ext {α:Type} (s:List Tok) (x y:Res α):Prop:=∀a r,x=.ok a r→y=.ok a (r++s)
section
variable {s:List Tok}
theorem Ext.ok {α:Type} {a:α} {r:List Tok}:Ext s (.ok a r) (.ok a (r++s)):=fun _ _ e=>by injection e with e1 e2;subst e1 e2;rfl
theorem Ext.no {α:Type} {e p:Nat} {y:Res α}:Ext s (.no e p) y:=fun _ _ e=>by cases e
theorem Ext.bind {α β:Type} {x y:Res α} {f g:α→List Tok→Res β} (h:Ext s x y) (hf:∀a r,Ext s (f a r) (g a (r++s))):Ext s (x.bind f) (y.bind g):=fun b r e=>by
 obtain⟨a,r1,h1,h2⟩:=e1Z.1 e
 rw[h a r1 h1]
 exact hf a r1 b r h2
theorem Ext.ite {α:Type} {c d:Bool} {x y x' y':Res α} (h:d=c) (h1:c=true→Ext s x x') (h2:c=false→Ext s y y'):Ext s (if c=true then x else y) (if d=true then x' else y'):=by
 subst h
 cases d with
 |true=>exact h1 rfl
 |false=>exact h2 rfl
theorem c1F {w:T} {l:List Tok} (h:l≠[]∨isW w s=false):isW w (l++s)=isW w l:=by
 cases l with
 |nil=>rcases h with h|h;exact absurd rfl h;simpa [isW] using h
 |cons t l=>rfl
theorem k1g {k:Nat} {l:List Tok} (h:l≠[]∨ofK k s=false):ofK k (l++s)=ofK k l:=by
 cases l with
 |nil=>rcases h with h|h;exact absurd rfl h;simpa [ofK] using h
 |cons t l=>rfl
theorem d1t {l:List Tok} (h:l≠[]):(l++s).tail=l.tail++s:=by
 cases l with
 |nil=>exact absurd rfl h
 |cons t l=>rfl
theorem p1z {w:T} {l:List Tok} (h:isW w l=true):l≠[]:=by rintro rfl;cases h
theorem u1C {z:Nat} {l:List Tok} (h:l≠[]):pl z (l++s)=pl z l:=by
 cases l with
 |nil=>exact absurd rfl h
 |cons t l=>rfl
theorem Ext.need {z:Nat} {w:T} {l:List Tok}:Ext s (need z w l) (need z w (l++s)):=fun a r e=>by
 unfold Pa.need at e⊢
 split at e
 ·rename_i hw
  injection e with e1 e2;subst e2
  have hn:=p1z hw
  rw[if_pos (by rw[c1F (.inl hn)];exact hw),d1t hn]
 ·cases e
theorem Ext.taken {z k:Nat} {l:List Tok}:Ext s (taken z k l) (taken z k (l++s)):=fun a r e=>by
 cases l with
 |nil=>cases e
 |cons t l=>
  simp only[Pa.taken,List.cons_append] at e⊢
  split at e
  ·rename_i hw
   injection e with e1 e2;subst e1 e2
   rw[if_pos hw]
  ·cases e
theorem Ext.path (hs:Stop s) {z:Nat} {a b:Bool} {st:Nat}:∀(k:Nat) {p:List T} {l:List Tok},l.length≤k→Ext s (path z a b st p l) (path z a b st p (l++s)):=by
 intro k
 induction k with
 |zero=>intro p l hk x r e;cases l with
  |nil=>unfold Pa.path at e;cases e
  |cons t l=>simp at hk
 |succ k ih=>
  intro p l hk x r e
  cases l with
  |nil=>unfold Pa.path at e;cases e
  |cons t l=>
   unfold Pa.path at e
   rw[List.cons_append]
   unfold Pa.path
   split at e
   ·rename_i h1
    rw[if_pos h1]
    split at e
    ·cases e
    ·rename_i h2
     rw[if_neg h2]
     split at e
     ·rename_i h3
      rw[if_pos h3]
      injection e with e1 e2;subst e1 e2;rfl
     ·rename_i h3
      rw[if_neg h3]
      split at e
      ·split at e
       ·rename_i hb
        injection e with e1 e2;subst e1 e2
        have hd:=hs.dot
        cases s with
        |nil=>simp [hb]
        |cons d l'=>
         simp only[List.nil_append]
         rw[if_neg (by rw[show isW wDot [d]=isW wDot (d::l') from rfl,hd];decide),if_pos hb]
       ·cases e
      ·rename_i d l'
       simp only[List.cons_append]
       split at e
       ·rename_i hd
        rw[if_pos hd]
        exact ih (by simp at hk;omega) x r e
       ·rename_i hd
        rw[if_neg hd]
        split at e
        ·rename_i hb
         rw[if_pos hb]
         injection e with e1 e2;subst e1 e2;rfl
        ·cases e
   ·cases e
theorem y1W (hs:ofK 1 s=false) {z:Nat}:∀(l:List Tok) (ps:List T),params z ps (l++s)=((params z ps l).1,(params z ps l).2++s):=by
 intro l
 induction l with
 |nil=>
  intro ps
  cases s with
  |nil=>simp [params]
  |cons t s=>
   simp only[List.nil_append,params]
   rw[if_neg (by simpa [ofK] using hs)]
 |cons t l ih=>
  intro ps
  simp only[List.cons_append,params]
  split
  ·exact ih _
  ·rfl
structure ExT (s:List Tok) (z n:Nat):Prop where
 ty:∀{l},Ext s (pTy z n l) (pTy z n (l++s))
 pair:∀{l},Ext s (h1g z n l) (h1g z n (l++s))
 pairs:∀{t l},Ext s (e1s z n t l) (e1s z n t (l++s))
 aty:∀{l},Ext s (pAty z n l) (pAty z n (l++s))
theorem exT (hs:Stop s) (z:Nat):∀n,ExT s z n:=by
 intro n
 induction n with
 |zero=>exact⟨fun {l}=>(by rw[pTy];exact Ext.no),fun {l}=>(by rw[h1g];exact Ext.no),fun {t l}=>(by rw[e1s];exact Ext.no),fun {l}=>(by rw[pAty];exact Ext.no)⟩
 |succ n ih=>
  constructor
  ·intro l
   rw[pTy,pTy]
   refine Ext.bind ih.pair fun a r=>Ext.ite (c1F (.inr hs.arrow)) (fun hw=>?_) (fun _=>Ext.ok)
   rw[d1t (p1z hw)]
   exact Ext.bind ih.ty fun a r=>Ext.ok
  ·intro l
   rw[h1g,h1g]
   exact Ext.bind ih.aty fun a r=>ih.pairs
  ·intro t l
   rw[e1s,e1s]
   refine Ext.ite (c1F (.inr hs.star)) (fun hw=>?_) (fun _=>Ext.ok)
   rw[d1t (p1z hw)]
   exact Ext.bind ih.aty fun a r=>ih.pairs
  ·intro l
   by_cases hl:l=[]
   ·subst hl
    intro a r e
    have:=(lenT z (n+1)).aty e
    simp at this
   ·rw[pAty,pAty]
    rw[d1t hl,u1C hl]
    have ht:txt (l++s)=txt l:=by cases l with
     |nil=>exact absurd rfl hl
     |cons t l=>rfl
    rw[ht]
    refine Ext.ite (c1F (.inl hl)) (fun _=>Ext.ok) fun _=>Ext.ite (c1F (.inl hl)) (fun _=>Ext.ok) fun _=>Ext.ite (c1F (.inl hl)) (fun _=>Ext.ok) fun _=>Ext.ite (k1g (.inl hl)) (fun _=>Ext.ok) fun _=>Ext.ite (c1F (.inl hl)) (fun _=>?_) fun _=>?_
    ·exact Ext.bind ih.ty fun a r=>Ext.bind Ext.need fun a r=>Ext.ok
    ·exact Ext.bind (Ext.path hs _ (Nat.le_refl _)) fun a r=>Ext.ok
structure ExP (s:List Tok) (z n:Nat):Prop where
 pat:∀{l},Ext s (pPat z n l) (pPat z n (l++s))
 ap:∀{l},Ext s (pAp z n l) (pAp z n (l++s))
theorem e2F {l:List Tok} (h:l≠[]∨begP s=false):begP (l++s)=begP l:=by
 cases l with
 |nil=>rcases h with h|h;exact absurd rfl h;rw[List.nil_append,h];rfl
 |cons t l=>rfl
theorem e2G {l:List Tok} (h:l≠[]∨begE s=false):begE (l++s)=begE l:=by
 cases l with
 |nil=>rcases h with h|h;exact absurd rfl h;rw[List.nil_append,h];rfl
 |cons t l=>rfl
theorem h2c {l:List Tok} (h:l≠[]):txt (l++s)=txt l:=by
 cases l with
 |nil=>exact absurd rfl h
 |cons t l=>rfl
theorem b2N {l:List Tok} (h:l≠[]):num (l++s)=num l:=by
 cases l with
 |nil=>exact absurd rfl h
 |cons t l=>rfl
theorem Ext.nonempty {α:Type} {r:List Tok} {x y:Res α} (h0:r=[]→∀a r',x≠ .ok a r') (h:r≠[]→Ext s x y):Ext s x y:=fun a r' e=>by
 by_cases hr:r=[]
 ·exact absurd e (h0 hr a r')
 ·exact h hr a r' e
theorem s1n {β:Type} {z:Nat} {w:T} {f:Unit→List Tok→Res β}:∀a r',(need z w []).bind f≠ .ok a r':=fun a r' e=>by
 obtain⟨_,_,h,_⟩:=e1Z.1 e
 cases h
theorem exP (hs:Stop s) (z:Nat):∀n,ExP s z n:=by
 intro n
 induction n with
 |zero=>exact⟨fun {l}=>(by rw[pPat];exact Ext.no),fun {l}=>(by rw[pAp];exact Ext.no)⟩
 |succ n ih=>
  constructor
  ·intro l
   by_cases hl:l=[]
   ·subst hl
    intro a r e
    have:=(lenP z (n+1)).pat a r e
    simp at this
   ·rw[pPat,pPat,u1C hl]
    refine Ext.ite (k1g (.inl hl)) (fun _=>?_) (fun _=>ih.ap)
    exact Ext.bind (Ext.path hs _ (Nat.le_refl _)) fun a r=>Ext.ite (e2F (.inr hs.begP)) (fun _=>Ext.bind ih.ap fun a r=>Ext.ok) (fun _=>Ext.ok)
  ·intro l
   by_cases hl:l=[]
   ·subst hl
    intro a r e
    have:=(lenP z (n+1)).ap a r e
    simp at this
   ·rw[pAp,pAp,d1t hl,u1C hl,h2c hl,b2N hl]
    refine Ext.ite (c1F (.inl hl)) (fun _=>Ext.ok) fun _=>Ext.ite (c1F (.inl hl)) (fun _=>Ext.ok) fun _=>Ext.ite (c1F (.inl hl)) (fun _=>Ext.ok) fun _=>Ext.ite (k1g (.inl hl)) (fun _=>Ext.ok) fun _=>Ext.ite (k1g (.inl hl)) (fun _=>Ext.ok) fun _=>Ext.ite (k1g (.inl hl)) (fun _=>?_) fun _=>?_
    ·exact Ext.bind (Ext.path hs _ (Nat.le_refl _)) fun a r=>Ext.ok
    ·refine Ext.bind Ext.need fun a l=>Ext.nonempty (r:=l) ?_ fun hl=>?_
     ·rintro rfl a r e
      rw[if_neg (by decide)] at e
      obtain⟨_,_,e,_⟩:=e1Z.1 e
      have:=(lenP z n).pat _ _ e
      simp at this
     ·rw[d1t hl]
      refine Ext.ite (c1F (.inl hl)) (fun _=>Ext.ok) fun _=>Ext.bind ih.pat fun p r=>Ext.nonempty (r:=r) ?_ fun hr=>?_
      ·rintro rfl
       rw[if_neg (by decide)]
       exact s1n
      ·rw[d1t hr]
       exact Ext.ite (c1F (.inl hr)) (fun _=>Ext.bind ih.pat fun q r=>Ext.bind Ext.need fun _ r=>Ext.ok) (fun _=>Ext.bind Ext.need fun _ r=>Ext.ok)
structure ExE (s:List Tok) (z n:Nat):Prop where
 exp:∀{l},Ext s (pExp z n l) (pExp z n (l++s))
 bin:∀{lv l},Ext s (pBin z n lv l) (pBin z n lv (l++s))
 ops:∀{lv x l},Ext s (pOps z n lv x l) (pOps z n lv x (l++s))
 app:∀{l},Ext s (pApp z n l) (pApp z n (l++s))
 apps:∀{x l},Ext s (g1M z n x l) (g1M z n x (l++s))
 atom:∀{l},Ext s (f1r z n l) (f1r z n (l++s))
 cases:∀{bs l},Ext s (e1t z n bs l) (e1t z n bs (l++s))
 decs:∀{ds l},Ext s (i1g z n ds l) (i1g z n ds (l++s))
 dec:∀{l},Ext s (pDec z n l) (pDec z n (l++s))
 body:∀{l},Ext s (h1h z n l) (h1h z n (l++s))
theorem e2H (hs:Stop s) {lv:Nat} {l:List Tok}:opAt lv (l++s)=opAt lv l:=by
 cases l with
 |nil=>
  rw[List.nil_append,hs.ops lv]
  unfold opAt;split<;>rfl
 |cons t l=>rfl
theorem exE (hs:Stop s) (z:Nat):∀n,ExE s z n:=by
 intro n
 induction n with
 |zero=>exact⟨fun {l}=>(by rw[pExp];exact Ext.no),fun {lv l}=>(by rw[pBin];exact Ext.no),fun {lv x l}=>(by rw[pOps];exact Ext.no),fun {l}=>(by rw[pApp];exact Ext.no),fun {x l}=>(by rw[g1M];exact Ext.no),fun {l}=>(by rw[f1r];exact Ext.no),fun {bs l}=>(by rw[e1t];exact Ext.no),fun {ds l}=>(by rw[i1g];exact Ext.no),fun {l}=>(by rw[pDec];exact Ext.no),fun {l}=>(by rw[h1h];exact Ext.no)⟩
 |succ n ih=>
  have EP:=exP hs z n
  have ET:=exT hs z n
  constructor
  ·intro l
   by_cases hl:l=[]
   ·subst hl
    intro a r e
    have:=(lenE z (n+1)).exp a r e
    simp at this
   ·rw[pExp,pExp,d1t hl]
    refine Ext.ite (c1F (.inl hl)) (fun _=>?_) fun _=>Ext.ite (c1F (.inl hl)) (fun _=>?_) fun _=>ih.bin
    ·exact Ext.bind EP.pat fun _ _=>Ext.bind Ext.need fun _ _=>Ext.bind ih.exp fun _ _=>Ext.ok
    ·exact Ext.bind ih.exp fun _ _=>Ext.bind Ext.need fun _ _=>Ext.bind ih.exp fun _ _=>Ext.bind Ext.need fun _ _=>Ext.bind ih.exp fun _ _=>Ext.ok
  ·intro lv l
   rw[pBin,pBin]
   exact Ext.ite rfl (fun _=>ih.app) fun _=>Ext.bind ih.bin fun _ _=>ih.ops
  ·intro lv x l
   rw[pOps,pOps,e2H hs]
   refine Ext.ite rfl (fun _=>Ext.ok) fun h=>?_
   have hl:l≠[]:=by
    rintro rfl
    have:opAt lv []=0:=by unfold opAt;split<;>rfl
    rw[this] at h;cases h
   rw[d1t hl]
   exact Ext.bind ih.bin fun _ _=>Ext.ite rfl (fun _=>Ext.ok) fun _=>ih.ops
  ·intro l
   rw[pApp,pApp]
   exact Ext.bind ih.atom fun _ _=>ih.apps
  ·intro x l
   rw[g1M,g1M]
   exact Ext.ite (e2G (.inr hs.begE)) (fun _=>Ext.bind ih.atom fun _ _=>ih.apps) fun _=>Ext.ok
  ·intro l
   by_cases hl:l=[]
   ·subst hl
    intro a r e
    have:=(lenE z (n+1)).atom a r e
    simp at this
   ·rw[f1r,f1r,d1t hl,u1C hl,b2N hl]
    refine Ext.ite (k1g (.inl hl)) (fun _=>Ext.ok) fun _=>Ext.ite (c1F (.inl hl)) (fun _=>?_) fun _=>Ext.ite (c1F (.inl hl)) (fun _=>?_) fun _=>Ext.ite (c1F (.inl hl)) (fun _=>Ext.ok) fun _=>Ext.ite (c1F (.inl hl)) (fun _=>Ext.ok) fun _=>Ext.ite (by rw[k1g (.inl hl),k1g (.inl hl)]) (fun _=>?_) fun _=>?_
    ·exact Ext.bind ih.decs fun _ _=>Ext.bind Ext.need fun _ _=>Ext.bind ih.exp fun _ _=>Ext.bind Ext.need fun _ _=>Ext.ok
    ·refine Ext.bind ih.exp fun _ _=>Ext.bind Ext.need fun _ r=>Ext.nonempty (r:=r) ?_ fun hr=>?_
     ·rintro rfl a r e
      rw[if_neg (by decide)] at e
      obtain⟨_,_,e,_⟩:=e1Z.1 e
      have:=(lenE z n).cases _ _ e
      simp at this
     ·rw[c1F (.inl hr),d1t hr]
      have:(if isW wBar r=true then r.tail++s else r++s)=(if isW wBar r=true then r.tail else r)++s:=by split<;>rfl
      rw[this]
      exact Ext.bind ih.cases fun _ _=>Ext.ok
    ·exact Ext.bind (Ext.path hs _ (Nat.le_refl _)) fun _ _=>Ext.ok
    ·refine Ext.bind Ext.need fun a l=>Ext.nonempty (r:=l) ?_ fun hl=>?_
     ·rintro rfl a r e
      rw[if_neg (by decide)] at e
      obtain⟨_,_,e,_⟩:=e1Z.1 e
      have:=(lenE z n).exp _ _ e
      simp at this
     ·rw[d1t hl]
      refine Ext.ite (c1F (.inl hl)) (fun _=>Ext.ok) fun _=>Ext.bind ih.exp fun p r=>Ext.nonempty (r:=r) ?_ fun hr=>?_
      ·rintro rfl
       rw[if_neg (by decide),if_neg (by decide)]
       exact s1n
      ·rw[d1t hr]
       exact Ext.ite (c1F (.inl hr)) (fun _=>Ext.bind ih.exp fun _ _=>Ext.bind Ext.need fun _ _=>Ext.ok) fun _=>Ext.ite (c1F (.inl hr)) (fun _=>Ext.bind ET.ty fun _ _=>Ext.bind Ext.need fun _ _=>Ext.ok) (fun _=>Ext.bind Ext.need fun _ _=>Ext.ok)
  ·intro bs l
   rw[e1t,e1t]
   refine Ext.bind EP.pat fun _ _=>Ext.bind Ext.need fun _ _=>Ext.bind ih.exp fun _ r=>Ext.nonempty (r:=r) ?_ fun hr=>?_
   ·rintro rfl
    rw[if_neg (by decide)]
    exact s1n
   ·rw[d1t hr]
    exact Ext.ite (c1F (.inl hr)) (fun _=>ih.cases) (fun _=>Ext.bind Ext.need fun _ _=>Ext.ok)
  ·intro ds l
   rw[i1g,i1g]
   refine Ext.ite ?_ (fun _=>Ext.bind ih.dec fun _ _=>ih.decs) (fun _=>Ext.ok)
   cases l with
   |nil=>rw[List.nil_append,hs.val];rfl
   |cons t l=>rfl
  ·intro l
   by_cases hl:l=[]
   ·subst hl
    intro a r e
    have:=(lenE z (n+1)).dec a r e
    simp at this
   ·rw[pDec,pDec,d1t hl,u1C hl]
    refine Ext.ite (c1F (.inl hl)) (fun _=>?_) fun _=>?_
    ·exact Ext.bind Ext.taken fun _ _=>Ext.bind ih.body fun _ _=>Ext.ok
    ·refine Ext.bind Ext.need fun _ _=>Ext.bind Ext.taken fun _ _=>Ext.bind Ext.taken fun p r=>?_
     rw[y1W hs.low]
     exact Ext.bind ih.body fun _ _=>Ext.ok
  ·intro l
   by_cases hl:l=[]
   ·subst hl
    intro a r e
    have:=(lenE z (n+1)).body a r e
    simp at this
   ·rw[h1h,h1h,d1t hl]
    refine Ext.ite (c1F (.inl hl)) (fun _=>?_) fun _=>?_
    ·exact Ext.bind ET.ty fun _ _=>Ext.bind Ext.need fun _ _=>Ext.bind ih.exp fun _ _=>Ext.ok
    ·exact Ext.bind Ext.need fun _ _=>Ext.bind ih.exp fun _ _=>Ext.ok
end
end Go.Pa
end

section
/- PARSE, plain: places make no difference to what tokens are -/
set_option linter.unusedVariables false
set_option linter.unusedSimpArgs false
namespace Go.Pa
open Go.Lx (T Tok)
def bare (t:Tok):Tok:={t with at_:=0}
abbrev c1K (l:List Tok):List Tok:=l.map bare
mutual
def bE:Exp→Exp
 | .fn p x=>.fn p (bE x)
 | .app f x=>.app (bE f) (bE x)
 | .pair a b=>.pair (bE a) (bE b)
 | .lets l x=>.lets (bDs l) (bE x)
 | .ite c a b=>.ite (bE c) (bE a) (bE b)
 | .cases x l=>.cases (bE x) (bCs l)
 | .bin o a b=>.bin o (bE a) (bE b)
 | .ann x t=>.ann (bE x) t
 | .int n=>.int n
 | .tru=>.tru
 | .fls=>.fls
 | .unit=>.unit
 | .var p=>.var p
 | .con p=>.con p
def bD:Dec→Dec
 | .val _ n t x=>.val 0 n t (bE x)
 | .func _ n ps t x=>.func 0 n ps t (bE x)
def bDs:List Dec→List Dec
 |[]=>[]
 |d::l=>bD d::bDs l
def bCs:List (Pat×Exp)→List (Pat×Exp)
 |[]=>[]
 |(p,x)::l=>(p,bE x)::bCs l
end
theorem h2d (a b:List Dec):bDs (a++b)=bDs a++bDs b:=by
 induction a with
 |nil=>rfl
 |cons d a ih=>simp [bDs,ih]
theorem h2e (a b:List (Pat×Exp)):bCs (a++b)=bCs a++bCs b:=by
 induction a with
 |nil=>rfl
 |cons d a ih=>obtain⟨p,x⟩:=d;simp [bCs,ih]
def Res.mp {α β:Type} (φ:α→β):Res α→Res β
 | .ok a r=>.ok (φ a) (c1K r)
 | .no e _=>.no e 0
theorem a1U {α α' β β':Type} {φ:α→α'} {ψ:β→β'} {x:Res α} {y:Res α'} {f:α→List Tok→Res β} {g:α'→List Tok→Res β'} (h:y=x.mp φ) (hf:∀a r,g (φ a) (c1K r)=(f a r).mp ψ):y.bind g=(x.bind f).mp ψ:=by
 subst h
 cases x with
 |ok a r=>exact hf a r
 |no e p=>rfl
theorem c1g {α β:Type} {φ:α→β} {c d:Bool} {x y:Res α} {x' y':Res β} (h:d=c) (h1:x'=x.mp φ) (h2:y'=y.mp φ):(if d=true then x' else y')=(if c=true then x else y).mp φ:=by
 subst h;subst h1;subst h2
 cases d<;>rfl
theorem h2f {α β:Type} {φ:α→β} {c:Prop} [Decidable c] {x y:Res α} {x' y':Res β} (h1:x'=x.mp φ) (h2:y'=y.mp φ):(if c then x' else y')=(if c then x else y).mp φ:=by
 subst h1;subst h2
 split<;>rfl
theorem f1Y {w:T} {l:List Tok}:isW w (c1K l)=isW w l:=by cases l<;>rfl
theorem u1D {k:Nat} {l:List Tok}:ofK k (c1K l)=ofK k l:=by cases l<;>rfl
theorem g1C {l:List Tok}:(c1K l).tail=c1K l.tail:=by cases l<;>rfl
theorem i2H {l:List Tok}:txt (c1K l)=txt l:=by cases l<;>rfl
theorem i2I {l:List Tok}:num (c1K l)=num l:=by cases l<;>rfl
theorem pl_b {l:List Tok}:pl 0 (c1K l)=0:=by cases l<;>rfl
theorem i2J {l:List Tok}:begP (c1K l)=begP l:=by cases l<;>rfl
theorem i2K {l:List Tok}:begE (c1K l)=begE l:=by cases l<;>rfl
theorem i2L {lv:Nat} {l:List Tok}:opAt lv (c1K l)=opAt lv l:=by cases l<;>rfl
theorem f1z {z:Nat} {w:T} {l:List Tok}:need 0 w (c1K l)=(need z w l).mp id:=by
 unfold need
 rw[f1Y,pl_b,g1C]
 split<;>rfl
theorem w1f {z k:Nat} {l:List Tok}:taken 0 k (c1K l)=(taken z k l).mp id:=by
 cases l with
 |nil=>rfl
 |cons t l=>
  simp only[c1K,List.map_cons,taken,bare]
  split<;>rfl
theorem x1C {z:Nat} {a b:Bool} {st:Nat}:∀(k:Nat) {p:List T} {l:List Tok},l.length≤k→path 0 a b 0 p (c1K l)=(path z a b st p l).mp id:=by
 intro k
 induction k with
 |zero=>intro p l hk;cases l with
  |nil=>simp only[c1K,List.map_nil];unfold path;rfl
  |cons t l=>simp at hk
 |succ k ih=>
  intro p l hk
  cases l with
  |nil=>simp only[c1K,List.map_nil];unfold path;rfl
  |cons t l=>
   simp only[c1K,List.map_cons]
   unfold path
   simp only[bare]
   refine c1g rfl (h2f rfl (c1g rfl rfl ?_)) rfl
   cases l with
   |nil=>exact c1g rfl rfl rfl
   |cons d l'=>
    simp only[List.map_cons]
    exact c1g rfl (ih (by simp at hk;omega)) (c1g rfl rfl rfl)
theorem e2I {z:Nat}:∀(l:List Tok) (ps:List T),params 0 ps (c1K l)=((params z ps l).1,c1K (params z ps l).2):=by
 intro l
 induction l with
 |nil=>intro ps;simp [params,c1K]
 |cons t l ih=>
  intro ps
  simp only[c1K,List.map_cons,params,bare]
  split
  ·exact ih _
  ·rfl
structure BaT (z n:Nat):Prop where
 ty:∀{l},pTy 0 n (c1K l)=(pTy z n l).mp id
 pair:∀{l},h1g 0 n (c1K l)=(h1g z n l).mp id
 pairs:∀{t l},e1s 0 n t (c1K l)=(e1s z n t l).mp id
 aty:∀{l},pAty 0 n (c1K l)=(pAty z n l).mp id
theorem baT (z:Nat):∀n,BaT z n:=by
 intro n
 induction n with
 |zero=>exact⟨fun {l}=>(by rw[pTy,pTy];rfl),fun {l}=>(by rw[h1g,h1g];rfl),fun {t l}=>(by rw[e1s,e1s];rfl),fun {l}=>(by rw[pAty,pAty];rfl)⟩
 |succ n ih=>
  constructor
  ·intro l
   rw[pTy,pTy]
   refine a1U ih.pair fun a r=>c1g f1Y ?_ rfl
   rw[g1C]
   exact a1U ih.ty fun a r=>rfl
  ·intro l
   rw[h1g,h1g]
   exact a1U ih.aty fun a r=>ih.pairs
  ·intro t l
   rw[e1s,e1s,g1C]
   exact c1g f1Y (a1U ih.aty fun a r=>ih.pairs) rfl
  ·intro l
   rw[pAty,pAty,g1C,pl_b,i2H]
   refine c1g f1Y rfl (c1g f1Y rfl (c1g f1Y rfl (c1g u1D rfl (c1g f1Y ?_ ?_))))
   ·exact a1U ih.ty fun a r=>a1U f1z fun a r=>rfl
   ·exact a1U (x1C _ (Nat.le_refl _)) fun a r=>rfl
structure BaP (z n:Nat):Prop where
 pat:∀{l},pPat 0 n (c1K l)=(pPat z n l).mp id
 ap:∀{l},pAp 0 n (c1K l)=(pAp z n l).mp id
theorem baP (z:Nat):∀n,BaP z n:=by
 intro n
 induction n with
 |zero=>exact⟨fun {l}=>(by rw[pPat,pPat];rfl),fun {l}=>(by rw[pAp,pAp];rfl)⟩
 |succ n ih=>
  constructor
  ·intro l
   rw[pPat,pPat,pl_b]
   refine c1g u1D ?_ ih.ap
   exact a1U (x1C _ (Nat.le_refl _)) fun a r=>c1g i2J (a1U ih.ap fun a r=>rfl) rfl
  ·intro l
   rw[pAp,pAp,g1C,pl_b,i2H,i2I]
   refine c1g f1Y rfl (c1g f1Y rfl (c1g f1Y rfl (c1g u1D rfl (c1g u1D rfl (c1g u1D ?_ ?_)))))
   ·exact a1U (x1C _ (Nat.le_refl _)) fun a r=>rfl
   ·refine a1U f1z fun a l=>?_
    rw[g1C]
    refine c1g f1Y rfl (a1U ih.pat fun p r=>?_)
    rw[g1C]
    exact c1g f1Y (a1U ih.pat fun q r=>a1U f1z fun _ r=>rfl) (a1U f1z fun _ r=>rfl)
structure BaE (z n:Nat):Prop where
 exp:∀{l},pExp 0 n (c1K l)=(pExp z n l).mp bE
 bin:∀{lv l},pBin 0 n lv (c1K l)=(pBin z n lv l).mp bE
 ops:∀{lv x l},pOps 0 n lv (bE x) (c1K l)=(pOps z n lv x l).mp bE
 app:∀{l},pApp 0 n (c1K l)=(pApp z n l).mp bE
 apps:∀{x l},g1M 0 n (bE x) (c1K l)=(g1M z n x l).mp bE
 atom:∀{l},f1r 0 n (c1K l)=(f1r z n l).mp bE
 cases:∀{bs l},e1t 0 n (bCs bs) (c1K l)=(e1t z n bs l).mp bCs
 decs:∀{ds l},i1g 0 n (bDs ds) (c1K l)=(i1g z n ds l).mp bDs
 dec:∀{l},pDec 0 n (c1K l)=(pDec z n l).mp bD
 body:∀{l},h1h 0 n (c1K l)=(h1h z n l).mp (fun b=>(b.1,bE b.2))
theorem baE (z:Nat):∀n,BaE z n:=by
 intro n
 induction n with
 |zero=>exact⟨fun {l}=>(by rw[pExp,pExp];rfl),fun {lv l}=>(by rw[pBin,pBin];rfl),fun {lv x l}=>(by rw[pOps,pOps];rfl),fun {l}=>(by rw[pApp,pApp];rfl),fun {x l}=>(by rw[g1M,g1M];rfl),fun {l}=>(by rw[f1r,f1r];rfl),fun {bs l}=>(by rw[e1t,e1t];rfl),fun {ds l}=>(by rw[i1g,i1g];rfl),fun {l}=>(by rw[pDec,pDec];rfl),fun {l}=>(by rw[h1h,h1h];rfl)⟩
 |succ n ih=>
  have BP:=baP z n
  have BT:=baT z n
  constructor
  ·intro l
   rw[pExp,pExp,g1C]
   refine c1g f1Y ?_ (c1g f1Y ?_ ih.bin)
   ·exact a1U BP.pat fun _ _=>a1U f1z fun _ _=>a1U ih.exp fun _ _=>by simp only[Res.mp,bE,id]
   ·exact a1U ih.exp fun _ _=>a1U f1z fun _ _=>a1U ih.exp fun _ _=>a1U f1z fun _ _=>a1U ih.exp fun _ _=>by simp only[Res.mp,bE,id]
  ·intro lv l
   rw[pBin,pBin]
   exact c1g rfl ih.app (a1U ih.bin fun _ _=>ih.ops)
  ·intro lv x l
   rw[pOps,pOps,i2L,g1C]
   refine c1g rfl rfl (a1U ih.bin fun y r=>c1g rfl (by simp only[Res.mp,bE]) ?_)
   have:=ih.ops (lv:=lv) (x:=.bin (opAt lv l) x y) (l:=r)
   simpa only[bE] using this
  ·intro l
   rw[pApp,pApp]
   exact a1U ih.atom fun _ _=>ih.apps
  ·intro x l
   rw[g1M,g1M]
   refine c1g i2K (a1U ih.atom fun y r=>?_) rfl
   have:=ih.apps (x:=.app x y) (l:=r)
   simpa only[bE] using this
  ·intro l
   rw[f1r,f1r,g1C,pl_b,i2I]
   refine c1g u1D (by simp only[Res.mp,bE]) (c1g f1Y ?_ (c1g f1Y ?_ (c1g f1Y (by simp only[Res.mp,bE]) (c1g f1Y (by simp only[Res.mp,bE]) (c1g (by rw[u1D,u1D]) ?_ ?_)))))
   ·have:=ih.decs (ds:=[]) (l:=l.tail)
    simp only[bDs] at this
    exact a1U this fun _ _=>a1U f1z fun _ _=>a1U ih.exp fun _ _=>a1U f1z fun _ _=>by simp only[Res.mp,bE,id]
   ·refine a1U ih.exp fun _ _=>a1U f1z fun _ r=>?_
    have:=ih.cases (bs:=[]) (l:=if isW wBar r=true then r.tail else r)
    simp only[bCs] at this
    rw[f1Y,g1C]
    have e:(if isW wBar r=true then c1K r.tail else c1K r)=c1K (if isW wBar r=true then r.tail else r):=by split<;>rfl
    rw[e]
    exact a1U this fun _ _=>by simp only[Res.mp,bE,id]
   ·refine a1U (x1C _ (Nat.le_refl _)) fun a r=>?_
    simp only[id]
    cases a.2<;>simp [Res.mp,bE]
   ·refine a1U f1z fun a l=>?_
    rw[g1C]
    refine c1g f1Y (by simp only[Res.mp,bE]) (a1U ih.exp fun p r=>?_)
    rw[g1C]
    refine c1g f1Y (a1U ih.exp fun _ _=>a1U f1z fun _ _=>by simp only[Res.mp,bE]) (c1g f1Y (a1U BT.ty fun _ _=>a1U f1z fun _ _=>by simp only[Res.mp,bE,id]) (a1U f1z fun _ _=>rfl))
  ·intro bs l
   rw[e1t,e1t]
   refine a1U BP.pat fun p _=>a1U f1z fun _ _=>a1U ih.exp fun x r=>?_
   rw[g1C]
   have e:bCs bs++[(id p,bE x)]=bCs (bs++[(p,x)]):=by rw[h2e];rfl
   rw[e]
   exact c1g f1Y ih.cases (a1U f1z fun _ _=>rfl)
  ·intro ds l
   rw[i1g,i1g]
   refine c1g (by rw[f1Y,f1Y]) (a1U ih.dec fun d r=>?_) rfl
   have e:bDs ds++[bD d]=bDs (ds++[d]):=by rw[h2d];rfl
   rw[e]
   exact ih.decs
  ·intro l
   rw[pDec,pDec,g1C,pl_b]
   refine c1g f1Y ?_ ?_
   ·exact a1U w1f fun _ _=>a1U ih.body fun _ _=>by simp only[Res.mp,bD,id]
   ·refine a1U f1z fun _ _=>a1U w1f fun _ _=>a1U w1f fun p r=>?_
    simp only[id]
    rw[e2I (z:=z)]
    exact a1U ih.body fun _ _=>by simp only[Res.mp,bD]
  ·intro l
   rw[h1h,h1h,g1C]
   refine c1g f1Y ?_ ?_
   ·exact a1U BT.ty fun _ _=>a1U f1z fun _ _=>a1U ih.exp fun _ _=>rfl
   ·exact a1U f1z fun _ _=>a1U ih.exp fun _ _=>rfl
end Go.Pa
end

section
/- PARSE, plain: an expression in parentheses; a pair of two -/
set_option linter.unusedVariables false
set_option linter.unusedSimpArgs false
namespace Go.Pa
open Go.Lx (T Tok)
def mk (w:T) (a:Nat):Tok:=⟨6,w,0,a⟩
theorem y1X (a:Nat) (l:List Tok):Stop (mk wClose a::l) where
 arrow:=rfl
 star:=rfl
 dot:=rfl
 ops:=fun lv=>by unfold opAt;split<;>rfl
 begE:=rfl
 begP:=rfl
 val:=rfl
 low:=rfl
theorem y1Y (a:Nat) (l:List Tok):Stop (mk wComma a::l) where
 arrow:=rfl
 star:=rfl
 dot:=rfl
 ops:=fun lv=>by unfold opAt;split<;>rfl
 begE:=rfl
 begP:=rfl
 val:=rfl
 low:=rfl
theorem p1A {w v:T} {l:List Tok} (h:isW w l=true) (hne:w≠v):isW v l=false:=by
 cases l with
 |nil=>cases h
 |cons t l=>
  simp only[isW,Bool.and_eq_true,decide_eq_true_eq] at h
  simp only[isW,Bool.and_eq_false_iff,decide_eq_false_iff_not]
  exact .inr fun e=>hne (h.2.symm.trans e)
theorem s1o {w:T} {l:List Tok} (h:isW w l=true) {k:Nat} (h3:k≠3) (h6:k≠6):ofK k l=false:=by
 cases l with
 |nil=>cases h
 |cons t l=>
  simp only[isW,Bool.and_eq_true,Bool.or_eq_true,beq_iff_eq] at h
  simp only[ofK,beq_eq_false_iff_ne]
  rcases h.1 with e|e<;>omega
def Bad {α:Type} (x:Res α):Prop:=∀a r,x≠ .ok a r
theorem Bad.bind {α β:Type} {x:Res α} {f:α→List Tok→Res β} (h:Bad x):Bad (x.bind f):=fun a r e=>by
 obtain⟨_,_,e,_⟩:=e1Z.1 e
 exact h _ _ e
theorem bad_w {z:Nat} {w:T} {l:List Tok} (h:isW w l=true) (w1:w≠wFn) (w2:w≠wIf) (w3:w≠wLet) (w4:w≠q1H) (w5:w≠l1Z) (w6:w≠h1M) (w7:w≠wOpen):∀n,Bad (f1r z n l)∧Bad (pApp z n l)∧(∀lv,lv≤3→Bad (pBin z n lv l))∧Bad (pExp z n l):=by
 intro n
 induction n with
 |zero=>exact⟨fun a r e=>(by rw[f1r] at e;cases e),fun a r e=>(by rw[pApp] at e;cases e),fun lv _ a r e=>(by rw[pBin] at e;cases e),fun a r e=>(by rw[pExp] at e;cases e)⟩
 |succ n ih=>
  obtain⟨i1,i2,i3,i4⟩:=ih
  refine⟨?_,?_,?_,?_⟩
  ·rw[f1r,s1o h (by decide) (by decide),p1A h w3,p1A h w4,p1A h w5,p1A h w6,s1o h (by decide) (by decide),s1o h (by decide) (by decide)]
   simp only[Bool.false_eq_true,if_false,Bool.or_self]
   refine Bad.bind fun a r e=>?_
   unfold need at e
   rw[p1A h w7] at e
   simp at e
  ·rw[pApp];exact i1.bind
  ·intro lv hlv
   rw[pBin]
   split
   ·exact i2
   ·rename_i hw
    have:lv≠3:=by simpa using hw
    exact(i3 (lv+1) (by omega)).bind
  ·rw[pExp,p1A h w1,p1A h w2]
   simp only[Bool.false_eq_true,if_false]
   exact i3 0 (by omega)
theorem b2O {z:Nat} {l:List Tok} (h:isW wClose l=true) (n:Nat):Bad (f1r z n l)∧Bad (pApp z n l)∧(∀lv,lv≤3→Bad (pBin z n lv l))∧Bad (pExp z n l):=
 bad_w h (by decide) (by decide) (by decide) (by decide) (by decide) (by decide) (by decide) n
theorem h2g {z n:Nat} {l r:List Tok} {x:Exp} (h0:isW wFn l=false) (h1:isW wIf l=false) (h:f1r z n l=.ok x r) (hs:begE r=false) (ho:∀lv,opAt lv r=0):pExp z (n+6) l=.ok x r:=by
 obtain⟨m,rfl⟩:∃m,n=m+1:=⟨n-1,by
  cases n with
  |zero=>rw[f1r] at h;cases h
  |succ n=>rfl⟩
 have a1:pApp z (m+1+1) l=.ok x r:=by
  rw[pApp,h]
  simp only[Res.bind]
  rw[g1M,hs];rfl
 have a2:pBin z (m+1+1+1) 3 l=.ok x r:=by rw[pBin,a1];rfl
 have a3:pBin z (m+1+1+1+1) 2 l=.ok x r:=by
  rw[pBin,if_neg (by decide),a2]
  simp only[Res.bind]
  rw[pOps,ho];rfl
 have a4:pBin z (m+1+1+1+1+1) 1 l=.ok x r:=by
  rw[pBin,if_neg (by decide),a3]
  simp only[Res.bind]
  rw[pOps,ho];rfl
 have a5:pBin z (m+1+1+1+1+1+1) 0 l=.ok x r:=by
  rw[pBin,if_neg (by decide),a4]
  simp only[Res.bind]
  rw[pOps,ho];rfl
 rw[show m+1+6=(m+1+1+1+1+1+1)+1 from rfl,pExp,h0,h1,a5];rfl
theorem e2J:begE []=false:=rfl
theorem e2K (lv:Nat):opAt lv []=0:=by unfold opAt;split<;>rfl
theorem pairs {z n a b c:Nat} {l m:List Tok} {x y:Exp} (h:pExp z n l=.ok x []) (k:pExp z n m=.ok y []):pExp z (n+7) (mk wOpen a::(l++mk wComma c::(m++[mk wClose b])))=.ok (.pair x y) []:=by
 have hl:l≠[]:=by
  rintro rfl
  have:=(lenE z n).exp _ _ h
  simp at this
 have hc:isW wClose (l++mk wComma c::(m++[mk wClose b]))=false:=by
  rw[c1F (.inl hl)]
  cases hw:isW wClose l with
  |false=>rfl
  |true=>exact absurd h ((b2O hw n).2.2.2 _ _)
 have he:=(exE (y1Y c (m++[mk wClose b])) z n).exp _ _ h
 have ke:=(exE (y1X b []) z n).exp _ _ k
 refine h2g (n:=n+1) rfl rfl ?_ e2J e2K
 rw[f1r]
 generalize hL:l++mk wComma c::(m++[mk wClose b])=L at *
 have e1:ofK 4 (mk wOpen a::L)=false:=rfl
 have e2:isW wLet (mk wOpen a::L)=false:=rfl
 have e3:isW q1H (mk wOpen a::L)=false:=rfl
 have e4:isW l1Z (mk wOpen a::L)=false:=rfl
 have e5:isW h1M (mk wOpen a::L)=false:=rfl
 have e6:(ofK 1 (mk wOpen a::L)||ofK 2 (mk wOpen a::L))=false:=rfl
 have e7:need z wOpen (mk wOpen a::L)=.ok () L:=rfl
 rw[e1,e2,e3,e4,e5,e6,e7]
 simp only[Bool.false_eq_true,if_false,Res.bind]
 rw[hc,he]
 simp only[Bool.false_eq_true,if_false,List.nil_append]
 have f1:isW wComma (mk wComma c::(m++[mk wClose b]))=true:=rfl
 rw[f1]
 simp only[if_true,List.tail_cons]
 rw[ke]
 rfl
end Go.Pa
end

section
/- PARSE, plain: the tokens of a text in parentheses; of two with a comma -/
set_option linter.unusedVariables false
set_option linter.unusedSimpArgs false
namespace Go.Pa
open Go.Lx
variable {res:T→Bool}
theorem b2P {ts us:List Tok} (h:us.map key=ts.map key):c1K us=c1K ts:=by
 induction us generalizing ts with
 |nil=>cases ts with
  |nil=>rfl
  |cons t ts=>cases h
 |cons u us ih=>cases ts with
  |nil=>cases h
  |cons t ts=>
   simp only[List.map_cons,List.cons.injEq] at h
   obtain⟨h1,h2⟩:=h
   simp only[key,Prod.mk.injEq] at h1
   simp only[c1K,List.map_cons] at ih⊢
   rw[ih h2]
   simp only[bare,h1.1,h1.2.1,h1.2.2]
end Go.Pa
end

section
/- PARSE, plain: the laws ParseParens, ParsePairs, ParseTokens over tokens -/
set_option linter.unusedVariables false
set_option linter.unusedSimpArgs false
namespace Go.Pa
open Go.Lx
variable {res:T→Bool}
theorem b2Q {z z' n:Nat} {ts us:List Tok} (h:c1K us=c1K ts):(pExp z' n us).mp bE=(pExp z n ts).mp bE:=by
 rw[←(baE z' n).exp,←(baE z n).exp,h]
end Go.Pa
end

section
/- PARSE: what the syntax is asq plain data (rows of cells) -/
set_option linter.unusedVariables false
set_option linter.unusedSimpArgs false
namespace Go.Pa
open Go Go.Eng
open Go.Lx (T Tok)
abbrev bs (t:T):ByteArray:=⟨t.toArray⟩
abbrev ci (n:Int):CT:=.int .i64 n
abbrev cs (t:T):CT:=.str (bs t)
def cp (p:List T):CT:=.rows 1 (p.map fun t=>[cs t])
def Ty.row:Ty→Row
 | .var n=>[ci 1,cs n,.rows 1 [],.rows 4 []]
 | .con p=>[ci 2,cs [],cp p,.rows 4 []]
 | .fn a b=>[ci 3,cs [],.rows 1 [],.rows 4 [a.row,b.row]]
 | .pair a b=>[ci 4,cs [],.rows 1 [],.rows 4 [a.row,b.row]]
def patR (k:Int) (n:T) (p:List T) (v:Int) (kids:List Row):Row:=[ci k,cs n,cp p,ci v,.rows 5 kids]
def Pat.row:Pat→Row
 | .any=>patR 1 [] [] 0 []
 | .var n=>patR 2 n [] 0 []
 | .int v=>patR 3 [] [] v []
 | .tru=>patR 4 [] [] 0 []
 | .fls=>patR 5 [] [] 0 []
 | .unit=>patR 6 [] [] 0 []
 | .pair a b=>patR 7 [] [] 0 [a.row,b.row]
 | .con p=>patR 8 [] p 0 []
 | .conA p a=>patR 8 [] p 0 [a.row]
def expR (k op v:Int) (p:List T) (ps ks ds ts:List Row):Row:=[ci k,ci op,ci v,cp p,.rows 5 ps,.rows 8 ks,.rows 9 ds,.rows 4 ts]
def decR (k a:Int) (n:T) (ps:List T) (ts es:List Row):Row:=[ci k,ci a,cs n,cp ps,.rows 4 ts,.rows 8 es,.rows 2 [],.rows 5 [],.rows 5 []]
mutual
def Exp.row:Exp→Row
 | .int v=>expR 1 0 v [] [] [] [] []
 | .tru=>expR 2 0 0 [] [] [] [] []
 | .fls=>expR 3 0 0 [] [] [] [] []
 | .unit=>expR 4 0 0 [] [] [] [] []
 | .var p=>expR 5 0 0 p [] [] [] []
 | .con p=>expR 6 0 0 p [] [] [] []
 | .fn p x=>expR 7 0 0 [] [p.row] [Exp.row x] [] []
 | .app f x=>expR 8 0 0 [] [] [Exp.row f,Exp.row x] [] []
 | .pair a b=>expR 9 0 0 [] [] [Exp.row a,Exp.row b] [] []
 | .lets l x=>expR 10 0 0 [] [] [Exp.row x] (j1h l) []
 | .ite c a b=>expR 11 0 0 [] [] [Exp.row c,Exp.row a,Exp.row b] [] []
 | .cases x l=>expR 12 0 0 [] (l.map fun b=>b.1.row) (Exp.row x::f1e l) [] []
 | .bin o a b=>expR 13 o 0 [] [] [Exp.row a,Exp.row b] [] []
 | .ann x t=>expR 14 0 0 [] [] [Exp.row x] [] [t.row]
def Dec.row:Dec→Row
 | .val a n t x=>decR 1 a n [] (t.toList.map Ty.row) [Exp.row x]
 | .func a n ps t x=>decR 2 a n ps (t.toList.map Ty.row) [Exp.row x]
def j1h:List Dec→List Row
 |[]=>[]
 |d::l=>Dec.row d::j1h l
def f1e:List (Pat×Exp)→List Row
 |[]=>[]
 |(_,x)::l=>Exp.row x::f1e l
end
theorem b2K (a b:List Dec):j1h (a++b)=j1h a++j1h b:=by
 induction a with
 |nil=>rfl
 |cons d a ih=>simp [j1h,ih]
theorem y1T (a b:List (Pat×Exp)):f1e (a++b)=f1e a++f1e b:=by
 induction a with
 |nil=>rfl
 |cons d a ih=>obtain⟨p,x⟩:=d;simp [f1e,ih]
end Go.Pa
end

section
open Go Go.Eng
namespace Go.Proofs
noncomputable def shL5:List (Nat×KM):=[(c1N,.con (some (a1s Pg c1N)) none false),
 (a1r,.con (some (a1s Pg a1r)) none false),
 (a1l,.con (some (a1s Pg a1l)) none false),
 (c1L,.con (some (a1s Pg c1L)) none false),
 (f1K,.con (some (a1s Pg f1K)) none false),
 (f1n,.con (some (a1s Pg f1n)) none false),
 (e1H,.con (some (a1s Pg e1H)) none false),
 (e1e,.con (some (a1s Pg e1e)) none false),
 (e1G,.con (some (a1s Pg e1G)) none false),
 (c1d,.con (some (a1s Pg c1d)) none false),
 (b1W,.con (some (a1s Pg b1W)) none false),
 (f1B,.con (some (a1s Pg f1B)) none false),
 (b1E,.con (some (a1s Pg b1E)) none false),
 (d1v,.con (some (a1s Pg d1v)) none false),
 (d1j,.con (some (a1s Pg d1j)) none false),
 (d1i,.con (some (a1s Pg d1i)) none false),
 (d1Q,.con (some (a1s Pg d1Q)) none false),
 (d1u,.con (some (a1s Pg d1u)) none false),
 (b1N,.con (some (a1s Pg b1N)) none false),
 (b1P,.con (some (a1s Pg b1P)) none false),
 (c1j,.con (some (a1s Pg c1j)) none false),
 (e1x,.con (some (a1s Pg e1x)) none false),
 (b1p,.con (some (a1s Pg b1p)) none false),
 (e1w,.con (some (a1s Pg e1w)) none false),
 (e1d,.con (some (a1s Pg e1d)) none false),
 (e1c,.con (some (a1s Pg e1c)) none false),
 (a1g,.con (some (a1s Pg a1g)) none true),
 (a1f,.con (some (a1s Pg a1f)) (some (a1p,.const (.agg []))) true),
 (a1y,.con (some (a1s Pg a1y)) (some (a1p,.const (.agg []))) true),
 (b1B,.con (some (a1s Pg b1B)) (some (a1p,.const (.agg []))) true),
 (a1C,.con (some (a1s Pg a1C)) (some (a1p,.const (.agg []))) true),
 (a1o,.con (some (a1s Pg a1o)) (some (a1p,.const (.agg []))) true),
 (a1H,.con (some (a1s Pg a1H)) (some (a1p,.const (.agg []))) true),
 (a1i,.con (some (a1s Pg a1i)) (some (a1p,.const (.agg []))) true),
 (b1a,.con (some (a1s Pg b1a)) (some (a1p,.const (.agg []))) true),
 (b1l,.con (some (a1s Pg b1l)) (some (a1p,.const (.agg []))) true),
 (b1m,.con (some (a1s Pg b1m)) (some (a1p,.const (.agg []))) true),
 (b1j,.con (some (a1s Pg b1j)) (some (a1p,.const (.agg []))) true),
 (b1i,.con (some (a1s Pg b1i)) (some (a1p,.const (.agg []))) true),
 (b1A,.con (some (a1s Pg b1A)) (some (a1p,.const (.agg []))) true),
 (a1L,.con (some (a1s Pg a1L)) (some (a1p,.const (.agg []))) true),
 (a1T,.con (some (a1s Pg a1T)) (some (a1p,.const (.agg []))) true),
 (a1B,.con (some (a1s Pg a1B)) (some (a1p,.const (.agg []))) true),
 (a1k,.con (some (a1s Pg a1k)) (some (a1p,.const (.agg []))) true),
 (b1r,.con (some (a1s Pg b1r)) (some (a1p,.const (.agg []))) true),
 (a1v,.con (some (a1s Pg a1v)) (some (a1p,.const (.agg []))) true),
 (f1j,.con (some (a1s Pg f1j)) none true),
 (f1m,.con (some (a1s Pg f1m)) none true),
 (f1p,.con (some (a1s Pg f1p)) none true),
 (d1C,.con (some (a1s Pg d1C)) none true),
 (d1D,.con (some (a1s Pg d1D)) none true),
 (d1c,.con (some (a1s Pg d1c)) none true),
 (c1x,.con (some (a1s Pg c1x)) none true),
 (c1Z,.con (some (a1s Pg c1Z)) none true),
 (d1a,.con (some (a1s Pg d1a)) none true),
 (c1r,.con (some (a1s Pg c1r)) none true),
 (d1T,.con (some (a1s Pg d1T)) none true),
 (c1W,.con (some (a1s Pg c1W)) none true),
 (c1q,.con (some (a1s Pg c1q)) none true),
 (d1S,.con (some (a1s Pg d1S)) none true),
 (d1r,.con (some (a1s Pg d1r)) none true),
 (d1Z,.con (some (a1s Pg d1Z)) none true),
 (d1U,.con (some (a1s Pg d1U)) none true),
 (d1W,.con (some (a1s Pg d1W)) none true),
 (d1E,.con (some (a1s Pg d1E)) none true),
 (d1Y,.con (some (a1s Pg d1Y)) none true),
 (d1F,.con (some (a1s Pg d1F)) none true),
 (i1M,.inl true),
 (h1A,.inl true),
 (h1s,.inl true),
 (h1z,.inl true),
 (h1p,.inl true),
 (h1o,.inl true),
 (h1t,.inl true)]
noncomputable def sh5:FuncId→KM:=fun f=>match shL5.lookup f with
 |some k=>k
 |none=>.inl false
@[irreducible] noncomputable def kc5:KC:=k1a Pg cfg0 rs0 sh5 12
@[irreducible] noncomputable def kt5 (f:FuncId) (args:List AV) (H:Heap):KT:=u1f Pg cfg0 rs0 sh5 12 false f args .none H
theorem hkc5 {QD:List (St→Prop)} {QR:CRes→Prop}:KCS Pg cfg0 evp QD QR kc5:=by
 delta kc5
 exact f1c (d1f hx0) 12 _
theorem j2T {f:FuncId} {args:List AV} {H:Heap} {r:CRes} (h:(kt5 f args H).wp Pg cfg0 evp [] (fun x=>x=r)):evp f args .none H=some r:=by
 delta kt5 at h
 obtain⟨x,h1,rfl⟩:=d1P (d1f hx0) h
 exact h1
theorem l1r {σ:Type} {t:KT} {QD:List (St→Prop)} {QR:CRes→Prop} (S:σ→St) (Inv:σ→Prop) (m:σ→Nat) (a0:σ) (h0:t.atLoop=some (S a0)) (hi:Inv a0)
  (hr:∀a,Inv a→(t.round Pg cfg0 rs0 kc5 (S a)).wp Pg cfg0 evp ((fun s=>∃a',(Inv a'∧m a'<m a)∧s=S a')::QD) QR):t.wp Pg cfg0 evp QD QR:=
 m1J (rs:=rs0) (kc:=kc5) S Inv m a0 (fun _=>hkc5) h0 hi hr
end Go.Proofs
end

section
/- PARSE: the program's reader: what its functions come to (RC), and how a tree asks for it -/
set_option linter.unusedVariables false
set_option linter.unusedSimpArgs false
open Go Go.Eng Go.Pa
open Go.Lx (T Tok)
namespace Go.Proofs
theorem u1K:∀f e,gx f=some e→∀args v,e args=some v→∀ρ:Nat→Nat,e (args.map (AV.ren ρ))=some (v.ren ρ):=by
 intro f e hf args v hv ρ
 unfold gx extL at hf
 simp only[List.lookup] at hf
 split at hf
 ·injection hf with hf;subst hf
  unfold g1S at hv
  split at hv
  ·split at hv
   ·rename_i hc
    injection hv with hv;subst hv
    simp only[List.map_cons,List.map_nil,AV.ren,g1S,if_pos hc]
   ·cases hv
  ·cases hv
 ·split at hf
  ·injection hf with hf;subst hf
   unfold e1P at hv
   split at hv
   ·split at hv
    ·rename_i hsz
     simp only[List.map_cons,List.map_nil,AV.ren,e1P,if_pos hsz]
     split at hv
     ·rename_i hp;injection hv with hv;subst hv;rfl
     ·rename_i hp;injection hv with hv;subst hv;rfl
     ·cases hv
    ·cases hv
   ·cases hv
  ·split at hf
   ·injection hf with hf;subst hf
    unfold u1u at hv
    split at hv
    ·split at hv
     ·rename_i xs hx
      split at hv
      ·rename_i hl
       injection hv with hv;subst hv
       simp only[List.map_cons,List.map_nil,AV.ren,u1u,m1L ρ hx,if_pos hl]
      ·cases hv
     ·cases hv
    ·cases hv
   ·cases hf
abbrev tks (l:List Tok):List (List AV):=l.map tokRow
abbrev hp5 (l:List (List AV)) (z e p d:Int):List AV:=[.slice 4 l .no,vI z,vI e,vI p,vI d]
abbrev rH (l:List Tok) (z d:Nat):Heap:=[hp5 (tks l) z 0 0 d]
abbrev rB (rows:List (List AV)) (z e p d:Nat):Heap:=[hp5 rows z e p d]
abbrev g1N:AV:=.iface a1p (.agg [])
def gtok (t:Tok):Prop:=(t.kind=5→t.text≠[])∧(t.kind=1→∃c r,t.text=c::r∧Lx.low c=true)∧(t.kind=2→∃c r,t.text=c::r∧Lx.high c=true)∧(t.kind=3→∃c r,t.text=c::r∧Lx.low c=true)
def Gd (l:List Tok):Prop:=∀t∈l,gtok t
theorem Gd.tail {l:List Tok} (h:Gd l):Gd l.tail:=fun t ht=>h t (List.mem_of_mem_tail ht)
theorem Gd.cons {t:Tok} {l:List Tok} (h:Gd (t::l)):gtok t∧Gd l:=⟨h t (by simp),fun u hu=>h u (by simp [hu])⟩
theorem Gd.nil:Gd []:=fun t ht=>by cases ht
def Rq {α:Type} (v:α→AV) (F:Res α) (z d:Nat) (r:CRes):Prop:=
 match F with
 | .ok a l=>Gd l∧r=⟨.ret (v a),.none,rH l z d⟩
 | .no e p=>e≠0∧∃l:List Tok,r=⟨.panic g1N,.none,rB (tks l) z e p d⟩
def RC {α:Type} (v:α→AV) (F:Res α) (z d:Nat) (g:FuncId) (args:List AV) (H:Heap):Prop:=∃r,evp g args .none H=some r∧Rq v F z d r
theorem c1i {α:Type} {v:α→AV} {F:Res α} {z d:Nat} {a:α} {l:List Tok} {x:AV} (h:F=.ok a l) (hg:Gd l) (hx:x=v a):Rq v F z d ⟨.ret x,.none,rH l z d⟩:=by
 subst h hx;exact⟨hg,rfl⟩
theorem b1o {α:Type} {v:α→AV} {F:Res α} {z d e p:Nat} {l:List Tok} (h:F=.no e p) (he:e≠0):Rq v F z d ⟨.panic g1N,.none,rB (tks l) z e p d⟩:=by
 subst h;exact⟨he,l,rfl⟩
theorem i1C {α:Type} {v:α→AV} {F:Res α} {z d:Nat} {g:FuncId} {args:List AV} {H:Heap} (h:(kt5 g args H).wp Pg cfg0 evp [] (Rq v F z d)):RC v F z d g args H:=by
 delta kt5 at h
 exact d1P (d1f hx0) h
theorem x1H {f:FuncId} {args:List AV} {H:Heap} {Q:CRes→Prop} (h:(kt5 f args H).wp Pg cfg0 evp [] Q):∃r,evp f args .none H=some r∧Q r:=by
 delta kt5 at h
 exact d1P (d1f hx0) h
def tyK:Ty→Int
 | .var _=>1
 | .con _=>2
 | .fn _ _=>3
 | .pair _ _=>4
def tyN:Ty→ByteArray
 | .var n=>bs n
 |_=>bs []
def tyP:Ty→List (List AV)
 | .con p=>p.map fun t=>[vS (bs t)]
 |_=>[]
def tyQ:Ty→List (List AV)
 | .fn a b=>[avs a.row,avs b.row]
 | .pair a b=>[avs a.row,avs b.row]
 |_=>[]
theorem h1m (p:List T):avss (p.map fun t=>[cs t])=p.map fun t=>[vS (bs t)]:=by
 rw[g1J,List.map_map];rfl
theorem g1s (t:Ty):avs t.row=[vI (tyK t),vS (tyN t),.slice 1 (tyP t) .no,.slice 4 (tyQ t) .no]:=by
 cases t with
 |var n=>rfl
 |con p=>simp only[Ty.row,avs,CT.av,cp,h1m,tyK,tyN,tyP,tyQ];rfl
 |fn a b=>rfl
 |pair a b=>rfl
abbrev tyV (t:Ty):AV:=.agg (avs t.row)
abbrev strV (t:T):AV:=vS (bs t)
abbrev f2b (p:List T):AV:=.slice 1 (p.map fun t=>[vS (bs t)]) .no
abbrev j2s (_:Unit):AV:=.tuple []
abbrev u1L (x:List T×Bool):AV:=.tuple [f2b x.1,vB x.2]
section
variable {QD:List (St→Prop)} {QR:CRes→Prop}
theorem h2y {g:FuncId} {args:List AV} {H:Heap} {t f:KT} {b:Bool} (c:evp g args .none H=some ⟨.ret (vB b),.none,H⟩) (h1:b=true→t.wp Pg cfg0 evp QD QR) (h2:b=false→f.wp Pg cfg0 evp QD QR):
  (KT.exB fun b=>.call g args .none H ⟨.ret (vB b),.none,H⟩ (.branch b t f)).wp Pg cfg0 evp QD QR:=⟨b,c,h1,h2⟩
theorem l1j {g:FuncId} {args:List AV} {H:Heap} {l:List Tok} {z d:Nat} {w:ByteArray} {t f:List (List AV)→Int→Int→Int→Int→KT}
  (c:evp g args .none H=some ⟨.ret (vB (isW (tx w) l)),.none,rH (if isW (tx w) l then l.tail else l) z d⟩)
  (h1:isW (tx w) l=true→(t (tks l.tail) z 0 0 d).wp Pg cfg0 evp QD QR) (h2:isW (tx w) l=false→(f (tks l) z 0 0 d).wp Pg cfg0 evp QD QR):
  (KT.exB fun b=>.exR fun m=>.exI fun a=>.exI fun e=>.exI fun p=>.exI fun d'=>.call g args .none H ⟨.ret (vB b),.none,[hp5 m a e p d']⟩ (.branch b (t m a e p d') (f m a e p d'))).wp Pg cfg0 evp QD QR:=by
 cases hb:isW (tx w) l with
 |true=>rw[hb] at c;exact⟨true,_,_,_,_,_,c,fun _=>h1 hb,fun h=>(by cases h)⟩
 |false=>rw[hb] at c;exact⟨false,_,_,_,_,_,c,fun h=>(by cases h),fun _=>h2 hb⟩
variable {z d:Nat} {g:FuncId} {args:List AV} {H:Heap} {k2:List (List AV)→Int→Int→Int→Int→KT}
theorem c1V {F:Res Unit} {k1:List (List AV)→Int→Int→Int→Int→KT} (c:RC j2s F z d g args H)
  (hok:∀u l,F=.ok u l→Gd l→(k1 (tks l) z 0 0 d).wp Pg cfg0 evp QD QR) (hno:∀e p l,F=.no e p→e≠0→(k2 (tks l) z e p d).wp Pg cfg0 evp QD QR):
  (KT.alt (.exR fun m=>.exI fun a=>.exI fun e=>.exI fun p=>.exI fun d'=>.call g args .none H ⟨.ret (.tuple []),.none,[hp5 m a e p d']⟩ (k1 m a e p d'))
   (.exR fun m=>.exI fun a=>.exI fun e=>.exI fun p=>.exI fun d'=>.call g args .none H ⟨.panic g1N,.none,[hp5 m a e p d']⟩ (k2 m a e p d'))).wp Pg cfg0 evp QD QR:=by
 obtain⟨r,h1,h2⟩:=c
 cases hF:F with
 |ok a l=>rw[hF] at h2;obtain⟨hg,rfl⟩:=h2;exact .inl ⟨_,_,_,_,_,h1,hok a l hF hg⟩
 |no e p=>rw[hF] at h2;obtain⟨he,l,rfl⟩:=h2;exact .inr ⟨_,_,_,_,_,h1,hno e p l hF he⟩
theorem p1F {F:Res T} {k1:ByteArray→List (List AV)→Int→Int→Int→Int→KT} (c:RC strV F z d g args H)
  (hok:∀u l,F=.ok u l→Gd l→(k1 (bs u) (tks l) z 0 0 d).wp Pg cfg0 evp QD QR) (hno:∀e p l,F=.no e p→e≠0→(k2 (tks l) z e p d).wp Pg cfg0 evp QD QR):
  (KT.alt (.exS fun s=>.exR fun m=>.exI fun a=>.exI fun e=>.exI fun p=>.exI fun d'=>.call g args .none H ⟨.ret (vS s),.none,[hp5 m a e p d']⟩ (k1 s m a e p d'))
   (.exR fun m=>.exI fun a=>.exI fun e=>.exI fun p=>.exI fun d'=>.call g args .none H ⟨.panic g1N,.none,[hp5 m a e p d']⟩ (k2 m a e p d'))).wp Pg cfg0 evp QD QR:=by
 obtain⟨r,h1,h2⟩:=c
 cases hF:F with
 |ok a l=>rw[hF] at h2;obtain⟨hg,rfl⟩:=h2;exact .inl ⟨_,_,_,_,_,_,h1,hok a l hF hg⟩
 |no e p=>rw[hF] at h2;obtain⟨he,l,rfl⟩:=h2;exact .inr ⟨_,_,_,_,_,h1,hno e p l hF he⟩
theorem h2z {F:Res (List T)} {k1:List (List AV)→List (List AV)→Int→Int→Int→Int→KT} (c:RC f2b F z d g args H)
  (hok:∀u l,F=.ok u l→Gd l→(k1 (u.map fun t=>[vS (bs t)]) (tks l) z 0 0 d).wp Pg cfg0 evp QD QR) (hno:∀e p l,F=.no e p→e≠0→(k2 (tks l) z e p d).wp Pg cfg0 evp QD QR):
  (KT.alt (.exR fun s=>.exR fun m=>.exI fun a=>.exI fun e=>.exI fun p=>.exI fun d'=>.call g args .none H ⟨.ret (.slice 1 s .no),.none,[hp5 m a e p d']⟩ (k1 s m a e p d'))
   (.exR fun m=>.exI fun a=>.exI fun e=>.exI fun p=>.exI fun d'=>.call g args .none H ⟨.panic g1N,.none,[hp5 m a e p d']⟩ (k2 m a e p d'))).wp Pg cfg0 evp QD QR:=by
 obtain⟨r,h1,h2⟩:=c
 cases hF:F with
 |ok a l=>rw[hF] at h2;obtain⟨hg,rfl⟩:=h2;exact .inl ⟨_,_,_,_,_,_,h1,hok a l hF hg⟩
 |no e p=>rw[hF] at h2;obtain⟨he,l,rfl⟩:=h2;exact .inr ⟨_,_,_,_,_,h1,hno e p l hF he⟩
theorem s1w {F:Res (List T×Bool)} {k1:List (List AV)→Bool→List (List AV)→Int→Int→Int→Int→KT} (c:RC u1L F z d g args H)
  (hok:∀u l,F=.ok u l→Gd l→(k1 (u.1.map fun t=>[vS (bs t)]) u.2 (tks l) z 0 0 d).wp Pg cfg0 evp QD QR) (hno:∀e p l,F=.no e p→e≠0→(k2 (tks l) z e p d).wp Pg cfg0 evp QD QR):
  (KT.alt (.exR fun s=>.exB fun b=>.exR fun m=>.exI fun a=>.exI fun e=>.exI fun p=>.exI fun d'=>.call g args .none H ⟨.ret (.tuple [.slice 1 s .no,vB b]),.none,[hp5 m a e p d']⟩ (k1 s b m a e p d'))
   (.exR fun m=>.exI fun a=>.exI fun e=>.exI fun p=>.exI fun d'=>.call g args .none H ⟨.panic g1N,.none,[hp5 m a e p d']⟩ (k2 m a e p d'))).wp Pg cfg0 evp QD QR:=by
 obtain⟨r,h1,h2⟩:=c
 cases hF:F with
 |ok a l=>rw[hF] at h2;obtain⟨hg,rfl⟩:=h2;exact .inl ⟨_,_,_,_,_,_,_,h1,hok a l hF hg⟩
 |no e p=>rw[hF] at h2;obtain⟨he,l,rfl⟩:=h2;exact .inr ⟨_,_,_,_,_,h1,hno e p l hF he⟩
theorem w1k {F:Res Ty} {k1:Int→ByteArray→List (List AV)→List (List AV)→List (List AV)→Int→Int→Int→Int→KT} (c:RC tyV F z d g args H)
  (hok:∀t l,F=.ok t l→Gd l→(k1 (tyK t) (tyN t) (tyP t) (tyQ t) (tks l) z 0 0 d).wp Pg cfg0 evp QD QR) (hno:∀e p l,F=.no e p→e≠0→(k2 (tks l) z e p d).wp Pg cfg0 evp QD QR):
  (KT.alt (.exI fun i=>.exS fun s=>.exR fun l1=>.exR fun l2=>.exR fun m=>.exI fun a=>.exI fun e=>.exI fun p=>.exI fun d'=>.call g args .none H ⟨.ret (.agg [vI i,vS s,.slice 1 l1 .no,.slice 4 l2 .no]),.none,[hp5 m a e p d']⟩ (k1 i s l1 l2 m a e p d'))
   (.exR fun m=>.exI fun a=>.exI fun e=>.exI fun p=>.exI fun d'=>.call g args .none H ⟨.panic g1N,.none,[hp5 m a e p d']⟩ (k2 m a e p d'))).wp Pg cfg0 evp QD QR:=by
 obtain⟨r,h1,h2⟩:=c
 cases hF:F with
 |ok a l=>
  rw[hF] at h2
  simp only[Rq,tyV,g1s] at h2
  obtain⟨hg,rfl⟩:=h2;exact .inl ⟨_,_,_,_,_,_,_,_,_,h1,hok a l hF hg⟩
 |no e p=>rw[hF] at h2;obtain⟨he,l,rfl⟩:=h2;exact .inr ⟨_,_,_,_,_,h1,hno e p l hF he⟩
end
end Go.Proofs
end

section
/- PARSE, plain: how many nodes types have, how deep they are; their names are short -/
set_option linter.unusedVariables false
set_option linter.unusedSimpArgs false
namespace Go.Pa
open Go.Lx (T Tok)
def tok4 (l:List Tok):Prop:=∀t∈l,t.text.length≤4096∧t.n<9223372036854775808∧t.at_<4611686018427387904
theorem tok4.tail {l:List Tok} (h:tok4 l):tok4 l.tail:=fun t ht=>h t (List.mem_of_mem_tail ht)
theorem tok4.head {t:Tok} {l:List Tok} (h:tok4 (t::l)):t.text.length≤4096:=(h t (by simp)).1
theorem tok4.headN {t:Tok} {l:List Tok} (h:tok4 (t::l)):t.n<9223372036854775808:=(h t (by simp)).2.1
theorem tok4.headA {t:Tok} {l:List Tok} (h:tok4 (t::l)):t.at_<4611686018427387904:=(h t (by simp)).2.2
def f1f (n:T):Prop:=n.length≤4096
def h1i (p:List T):Prop:=p.length≤8∧∀w∈p,f1f w
def Wt {α:Type} (P:α→Prop) (c:α→Nat) (b:Nat) (x:Res α):Prop:=∀a r,x=.ok a r→P a∧c a+r.length≤b∧tok4 r
theorem Wt.ok {α:Type} {P:α→Prop} {c:α→Nat} {b:Nat} {a:α} {r:List Tok} (h1:P a) (h2:c a+r.length≤b) (h3:tok4 r):Wt P c b (.ok a r):=fun _ _ h=>by
 injection h with e1 e2;subst e1 e2;exact⟨h1,h2,h3⟩
theorem Wt.no {α:Type} {P:α→Prop} {c:α→Nat} {b e p:Nat}:Wt P c b (.no e p):=fun _ _ h=>by cases h
theorem Wt.bind {α β:Type} {P:α→Prop} {c:α→Nat} {Q:β→Prop} {d:β→Nat} {b b':Nat} {x:Res α} {f:α→List Tok→Res β} (h:Wt P c b x) (hf:∀a r,P a→c a+r.length≤b→tok4 r→Wt Q d b' (f a r)):Wt Q d b' (x.bind f):=fun y r e=>by
 obtain⟨a,r1,h1,h2⟩:=e1Z.1 e
 obtain⟨p1,p2,p3⟩:=h a r1 h1
 exact hf a r1 p1 p2 p3 y r h2
theorem Wt.ite {α:Type} {P:α→Prop} {k:α→Nat} {b:Nat} {c:Prop} [Decidable c] {x y:Res α} (h1:c→Wt P k b x) (h2:¬c→Wt P k b y):Wt P k b (if c then x else y):=by
 split
 ·exact h1 ‹_›
 ·exact h2 ‹_›
theorem Wt.need {z:Nat} {w:T} {l:List Tok} (h:tok4 l):Wt (fun _=>True) (fun _=>1) l.length (need z w l):=fun a r e=>by
 have:=c1H e
 unfold Pa.need at e
 split at e
 ·injection e with _ e;subst e;exact⟨trivial,by show 1+_≤_;omega,h.tail⟩
 ·cases e
theorem Wt.taken {z k:Nat} {l:List Tok} (h:tok4 l):Wt f1f (fun _=>1) l.length (taken z k l):=fun a r e=>by
 have:=k1f e
 cases l with
 |nil=>cases e
 |cons t l=>
  simp only[Pa.taken] at e
  split at e
  ·injection e with e1 e2;subst e1 e2;exact⟨h.head,by simp at *;omega,h.tail⟩
  ·cases e
theorem Wt.path {z:Nat} {a b:Bool} {s:Nat}:∀(k:Nat) {p:List T} {l:List Tok},l.length≤k→tok4 l→(∀w∈p,f1f w)→Wt (fun x:List T×Bool=>h1i x.1) (fun _=>1) l.length (path z a b s p l):=by
 intro k
 induction k with
 |zero=>intro p l hk _ _;cases l with
  |nil=>unfold Pa.path;exact Wt.no
  |cons t l=>simp at hk
 |succ k ih=>
  intro p l hk h4 hp
  cases l with
  |nil=>unfold Pa.path;exact Wt.no
  |cons t l=>
   have hp':∀w∈p++[t.text],f1f w:=fun w hw=>by
    rcases List.mem_append.1 hw with hw|hw
    ·exact hp w hw
    ·simp at hw;subst hw;exact h4.head
   unfold Pa.path
   refine Wt.ite (fun _=>Wt.ite (fun _=>Wt.no) fun h8=>Wt.ite (fun _=>Wt.ok ⟨by simp;omega,hp'⟩ (by simp;omega) h4.tail) fun _=>?_) fun _=>Wt.no
   split
   ·exact Wt.ite (fun _=>Wt.ok ⟨by simp;omega,hp'⟩ (by simp) (fun t ht=>by cases ht)) fun _=>Wt.no
   ·rename_i d l'
    refine Wt.ite (fun _ x r e=>?_) fun _=>Wt.ite (fun _=>Wt.ok ⟨by simp;omega,hp'⟩ (by simp;omega) h4.tail) fun _=>Wt.no
    obtain⟨q1,q2,q3⟩:=ih (l:=l') (by simp at hk;omega) h4.tail.tail hp' x r e
    have q2':1+r.length≤l'.length:=q2
    exact⟨q1,by show 1+r.length≤_;simp;omega,q3⟩
def Ty.cnt:Ty→Nat
 | .var _=>1
 | .con _=>1
 | .fn a b=>a.cnt+b.cnt+1
 | .pair a b=>a.cnt+b.cnt+1
def Ty.dep:Ty→Nat
 | .var _=>1
 | .con _=>1
 | .fn a b=>max a.dep b.dep+1
 | .pair a b=>max a.dep b.dep+1
def Ty.Ok:Ty→Prop
 | .var n=>f1f n
 | .con p=>h1i p
 | .fn a b=>a.Ok∧b.Ok
 | .pair a b=>a.Ok∧b.Ok
structure WtT (z n:Nat):Prop where
 ty:∀{l},tok4 l→Wt Ty.Ok Ty.cnt l.length (pTy z n l)
 pair:∀{l},tok4 l→Wt Ty.Ok Ty.cnt l.length (h1g z n l)
 pairs:∀{t l},tok4 l→t.Ok→Wt Ty.Ok Ty.cnt (t.cnt+l.length) (e1s z n t l)
 aty:∀{l},tok4 l→Wt Ty.Ok Ty.cnt l.length (pAty z n l)
theorem wtT (z:Nat):∀n,WtT z n:=by
 intro n
 induction n with
 |zero=>exact⟨fun _=>(by rw[pTy];exact Wt.no),fun _=>(by rw[h1g];exact Wt.no),fun _ _=>(by rw[e1s];exact Wt.no),fun _=>(by rw[pAty];exact Wt.no)⟩
 |succ n ih=>
  constructor
  ·intro l h
   rw[pTy]
   refine Wt.bind (ih.pair h) fun a r h1 h2 h3=>Wt.ite (fun hw=>?_) (fun _=>Wt.ok h1 h2 h3)
   have:=b1k hw
   exact Wt.bind (ih.ty h3.tail) fun b r' k1 k2 k3=>Wt.ok ⟨h1,k1⟩ (by simp only[Ty.cnt];omega) k3
  ·intro l h
   rw[h1g]
   exact Wt.bind (ih.aty h) fun a r h1 h2 h3=>fun b r' e=>by
    obtain⟨k1,k2,k3⟩:=ih.pairs h3 h1 b r' e
    exact⟨k1,by omega,k3⟩
  ·intro t l h ht
   rw[e1s]
   refine Wt.ite (fun hw=>?_) (fun _=>Wt.ok ht (Nat.le_refl _) h)
   have:=b1k hw
   exact Wt.bind (ih.aty h.tail) fun b r' k1 k2 k3=>fun c r2 e=>by
    obtain⟨j1,j2,j3⟩:=ih.pairs (t:=.pair t b) k3 ⟨ht,k1⟩ c r2 e
    simp only[Ty.cnt] at j2
    exact⟨j1,by omega,j3⟩
  ·intro l h
   have hl:∀{w:T},isW w l=true→1+l.tail.length≤l.length:=fun hw=>by have:=b1k hw;omega
   have h1:∀w:T,w.length≤4096→h1i [w]:=fun w hw=>⟨by simp,fun x hx=>by simp at hx;subst hx;exact hw⟩
   rw[pAty]
   refine Wt.ite (fun hw=>Wt.ok (h1 _ (by decide)) (hl hw) h.tail) fun _=>Wt.ite (fun hw=>Wt.ok (h1 _ (by decide)) (hl hw) h.tail) fun _=>Wt.ite (fun hw=>Wt.ok (h1 _ (by decide)) (hl hw) h.tail) fun _=>Wt.ite (fun hw=>?_) fun _=>Wt.ite (fun hw=>?_) fun _=>?_
   ·cases l with
    |nil=>cases hw
    |cons t l=>
     refine Wt.ok ?_ (by simp [Ty.cnt];omega) h.tail
     have:=h.head
     show ((txt (t::l)).drop 1).length≤4096
     simp [txt];omega
   ·have:=b1k hw
    exact Wt.bind (ih.ty h.tail) fun t r k1 k2 k3=>Wt.bind (Wt.need k3) fun _ r' j1 j2 j3=>Wt.ok k1 (by omega) j3
   ·exact Wt.bind (Wt.path _ (Nat.le_refl _) h (fun w hw=>by cases hw)) fun x r k1 k2 k3=>Wt.ok k1 k2 k3
theorem p1w:∀t:Ty,t.dep≤t.cnt∧1≤t.cnt
 | .var _=>⟨Nat.le_refl _,Nat.le_refl _⟩
 | .con _=>⟨Nat.le_refl _,Nat.le_refl _⟩
 | .fn a b=>by have h1:=p1w a;have h2:=p1w b;simp only[Ty.dep,Ty.cnt];omega
 | .pair a b=>by have h1:=p1w a;have h2:=p1w b;simp only[Ty.dep,Ty.cnt];omega
end Go.Pa
end

section
/- PARSE: what a text's tokens are like -/
set_option linter.unusedVariables false
set_option linter.unusedSimpArgs false
set_option maxRecDepth 100000
open Go Go.Eng Go.Pa
open Go.Lx (T Tok low high digit one Pieces)
namespace Go.Proofs
theorem d2I {c:UInt8} {r:T} {k n v:Nat} (h:one resP (c::r)=.ok (k,n,v)):(k=1→low c=true)∧(k=2→high c=true)∧(k=3→low c=true):=by
 unfold one at h
 simp only at h
 split at h
 ·rename_i hc
  split at h
  ·cases h
  ·injection h with h;injection h with h1 h
   rw[Bool.or_eq_true] at hc
   by_cases hh:high c=true
   ·rw[if_pos hh] at h1;subst h1
    exact⟨fun h=>by omega,fun _=>hh,fun h=>by omega⟩
   ·have hl:low c=true:=by rcases hc with h|h;exact h;exact absurd h hh
    rw[if_neg hh] at h1
    refine⟨fun _=>hl,fun h2=>?_,fun _=>hl⟩
    exfalso;rw[h2] at h1;split at h1<;>omega
 ·split at h
  ·split at h
   ·cases h
   ·injection h with h;injection h with h1 h;subst h1
    exact⟨fun h=>by omega,fun h=>by omega,fun h=>by omega⟩
  ·split at h
   ·split at h
    ·cases h
    ·split at h
     ·cases h
     ·injection h with h;injection h with h1 h;subst h1
      exact⟨fun h=>by omega,fun h=>by omega,fun h=>by omega⟩
   ·split at h
    ·injection h with h;injection h with h1 h;subst h1
     exact⟨fun h=>by omega,fun h=>by omega,fun h=>by omega⟩
    ·split at h
     ·injection h with h;injection h with h1 h;subst h1
      exact⟨fun h=>by omega,fun h=>by omega,fun h=>by omega⟩
     ·cases h
theorem r1J:∀(l:T) (v w:Nat),v≤9223372036854775807→Lx.d1A v l=some w→w≤9223372036854775807
 |[],v,w,hv,h=>by simp only[Lx.d1A,Option.some.injEq] at h;omega
 |c::l,v,w,hv,h=>by
  simp only[Lx.d1A] at h
  split at h
  ·exact r1J l _ w (by assumption) h
  ·cases h
theorem i2i {l:T} {k n v:Nat} (h:one resP l=.ok (k,n,v)):v<9223372036854775808:=by
 by_cases hk:k=4
 ·cases l with
  |nil=>simp [one] at h
  |cons c r=>
   unfold one at h
   simp only at h
   split at h
   ·split at h
    ·cases h
    ·injection h with h;injection h with h1 h;injection h with h2 h3;omega
   ·split at h
    ·split at h
     ·cases h
     ·rename_i w hw
      injection h with h;injection h with h1 h;injection h with h2 h3
      have:=r1J _ _ _ (Nat.zero_le _) hw
      omega
    ·split at h
     ·split at h
      ·cases h
      ·split at h
       ·cases h
       ·injection h with h;injection h with h1 h;injection h with h2 h3;omega
     ·split at h
      ·injection h with h;injection h with h1 h;injection h with h2 h3;omega
      ·split at h
       ·injection h with h;injection h with h1 h;injection h with h2 h3;omega
       ·cases h
 ·have:=(Lx.f1A h).2.2.2.2 hk;omega
theorem a2B {l:T} {a:Nat} {ts:List Tok} (h:Pieces resP l a ts):∀t∈ts,t.n<9223372036854775808:=by
 induction h with
 |nil _=>intro t ht;cases ht
 | @cons b x l a k v ts hb h1 hh ho _ ih=>
  intro t ht
  rw[List.mem_cons] at ht
  rcases ht with rfl|ht
  ·exact i2i h1
  ·exact ih t ht
theorem d2J {l:T} {a:Nat} {ts:List Tok} (h:Pieces resP l a ts):Gd ts:=by
 induction h with
 |nil _=>exact Gd.nil
 | @cons b x l a k v ts hb h1 hh ho _ ih=>
  intro t ht
  rw[List.mem_cons] at ht
  rcases ht with rfl|ht
  ·obtain⟨q1,q2,_⟩:=Lx.f1A h1
   cases x with
   |nil=>simp at q1
   |cons c r=>
    obtain⟨f1,f2,f3⟩:=d2I (c:=c) (r:=r++l) h1
    exact⟨fun _=>by simp,fun hk=>⟨c,r,rfl,f1 hk⟩,fun hk=>⟨c,r,rfl,f2 hk⟩,fun hk=>⟨c,r,rfl,f3 hk⟩⟩
  ·exact ih t ht
theorem k1D {s:ByteArray} {ts:List Tok} (h:lexA s=.ok ts):s.size≤4096∧Gd ts∧tok4 ts∧ts.length≤1024:=by
 obtain⟨h1,h2,h3⟩:=e2d h
 refine⟨h1,d2J h2,fun t ht=>?_,h3⟩
 have:=h2.places t ht
 rw[d1J] at this
 exact⟨by omega,a2B h2 t ht,by omega⟩
end Go.Proofs
end

section
/- LEX: trees, printed by kt.py out of x4.txt -/
open Go Go.Eng
open IntKind (wrap)
namespace Go.Proofs
set_option linter.unusedVariables false
set_option maxRecDepth 100000
end Go.Proofs
end

section
/- LEX: what the document's functions answer, part 1 -/
open Go Go.Eng Go.Lx
namespace Go.Proofs
set_option linter.unusedVariables false
set_option linter.unusedSimpArgs false
set_option maxRecDepth 100000
end Go.Proofs
end

section
/- TREES, printed by kt.py out of y1.txt -/
open Go Go.Eng
open IntKind (wrap)
namespace Go.Proofs
set_option linter.unusedVariables false
set_option maxRecDepth 100000
@[irreducible] noncomputable def j2F (l:List (List AV)) (z e a d:Int) (w:ByteArray):KT:=kt5 a1r [AV.ptr 0 0,vS w] [[AV.slice 4 l Own.no,vI z,vI e,vI a,vI d]]
theorem f2t (l z e a d) (w:ByteArray):kt5 a1r [AV.ptr 0 0,vS w] [[AV.slice 4 l Own.no,vI z,vI e,vI a,vI d]]=
 .stage (.branch false (.out (.need true (.branch false (.branch (0==3) (.need true (.ret (zkR (vB (zkb2.toList==w.toList)) [zk1 l z e a d]))) (.branch (0==6) (.need true (.ret (zkR (vB (zkb2.toList==w.toList)) [zk1 l z e a d]))) (.need true (.ret (zkR (vB false) [zk1 l z e a d]))))) (.need true (.ret (zkR (vB false) [zk1 l z e a d])))))) (.branch (e !=0) (.out (.need true (.branch false (.branch (0==3) (.need true (.ret (zkR (vB (zkb2.toList==w.toList)) [zk1 l z e a d]))) (.branch (0==6) (.need true (.ret (zkR (vB (zkb2.toList==w.toList)) [zk1 l z e a d]))) (.need true (.ret (zkR (vB false) [zk1 l z e a d]))))) (.need true (.ret (zkR (vB false) [zk1 l z e a d])))))) (.branch ((↑l.length:Int)==0) (.out (.need true (.branch false (.branch (0==3) (.need true (.ret (zkR (vB (zkb2.toList==w.toList)) [zk1 l z e a d]))) (.branch (0==6) (.need true (.ret (zkR (vB (zkb2.toList==w.toList)) [zk1 l z e a d]))) (.need true (.ret (zkR (vB false) [zk1 l z e a d]))))) (.need true (.ret (zkR (vB false) [zk1 l z e a d])))))) (.done (zkS 28 [(0,zkP),(2,.lp 2 0 0)] [(2,0,zk18 zkb2)] [zk1 l z e a d] 1))))) ((j2F l z e a d w).K):=by kernel_rfl
theorem z1k (l z e a d) (w:ByteArray):(j2F l z e a d w).K (zkS 28 [(0,zkP),(2,.lp 2 0 0)] [(2,0,zk18 zkb2)] [zk1 l z e a d] 1)=
 .exI fun i=>.exS fun s=>zkI2 fun i1 i2=>.row l 0 (zk9 i s i1 i2) (.need true (.branch true (.branch (i==3) (.need true (.ret (zkR (vB (s.toList==w.toList)) [zk1 l z e a d]))) (.branch (i==6) (.need true (.ret (zkR (vB (s.toList==w.toList)) [zk1 l z e a d]))) (.need true (.ret (zkR (vB false) [zk1 l z e a d]))))) (.need true (.ret (zkR (vB false) [zk1 l z e a d]))))):=by kernel_rfl
@[irreducible] noncomputable def j2G (l:List (List AV)) (z e a d k:Int):KT:=kt5 a1l [AV.ptr 0 0,vI k] [[AV.slice 4 l Own.no,vI z,vI e,vI a,vI d]]
theorem f2u (l z e a d k):kt5 a1l [AV.ptr 0 0,vI k] [[AV.slice 4 l Own.no,vI z,vI e,vI a,vI d]]=
 .stage (.branch false (.out (.need true (.branch false (.need true (.ret (zkR (vB (0==k)) [zk1 l z e a d]))) (.need true (.ret (zkR (vB false) [zk1 l z e a d])))))) (.branch (e !=0) (.out (.need true (.branch false (.need true (.ret (zkR (vB (0==k)) [zk1 l z e a d]))) (.need true (.ret (zkR (vB false) [zk1 l z e a d])))))) (.branch ((↑l.length:Int)==0) (.out (.need true (.branch false (.need true (.ret (zkR (vB (0==k)) [zk1 l z e a d]))) (.need true (.ret (zkR (vB false) [zk1 l z e a d])))))) (.done (zkS 28 [(0,zkP),(2,.lp 2 0 0)] [(2,0,zk18 zkb2)] [zk1 l z e a d] 1))))) ((j2G l z e a d k).K):=by kernel_rfl
theorem z1l (l z e a d k):(j2G l z e a d k).K (zkS 28 [(0,zkP),(2,.lp 2 0 0)] [(2,0,zk18 zkb2)] [zk1 l z e a d] 1)=
 .exI fun i=>.exS fun s=>zkI2 fun i1 i2=>.row l 0 (zk9 i s i1 i2) (.need true (.branch true (.need true (.ret (zkR (vB (i==k)) [zk1 l z e a d]))) (.need true (.ret (zkR (vB false) [zk1 l z e a d]))))):=by kernel_rfl
theorem z1m (l z e a d) (w:ByteArray):kt5 a1g [AV.ptr 0 0,vS w] [[AV.slice 4 l Own.no,vI z,vI e,vI a,vI d]]=
 zk5 a1r [zkP,vS w] [zk1 l z e a d] (fun b=>.branch (!b) (.need true (.ret (zkR (vB false) [zk1 l z e a d]))) (.need (decide ((l=[]∨(fun x=>x.size) Pg.types[e1y]=4)∧(0:Int)≤1∧1≤(↑l.length:Int)∧(↑l.length:Int)≤(↑l.length:Int))) (.need true (.ret (zkR (vB true) [zk1 (List.drop (Int.toNat 1) l) z e a d]))))):=by kernel_rfl
@[irreducible] noncomputable def c2s (l:List (List AV)) (z d:Int) (w:ByteArray):KT:=kt5 a1f [AV.ptr 0 0,vS w] [[AV.slice 4 l Own.no,vI z,vI 0,vI 0,vI d]]
theorem z1n (l z d) (w:ByteArray):kt5 a1f [AV.ptr 0 0,vS w] [[AV.slice 4 l Own.no,vI z,vI 0,vI 0,vI d]]=
 .stage (.branch false (.branch (!false) (.branch (decide (d>0)) (.out (zkL 1 l (.need true (.ret (zkQ zkF0 [zk8 l z d]))))) (.out (zkL 1 l (.need true (.ret (zkR (.tuple []) [zk8 l z d])))))) (.out (zkL 1 l (.need true (.ret (zkR (.tuple []) [zk8 l z d])))))) (.branch (0 !=0) (.branch (!false) (.branch (decide (d>0)) (.out (zkL 1 l (.need true (.ret (zkQ zkF0 [zk8 l z d]))))) (.out (zkL 1 l (.need true (.ret (zkR (.tuple []) [zk8 l z d])))))) (.out (zkL 1 l (.need true (.ret (zkR (.tuple []) [zk8 l z d])))))) (.done (zkS 37 [(1,(.func (.func e1R) [] [(.ref [(vS w)])])),(2,(.ref [zkP])),(4,.ptr 1 0)] [] [zk8 l z d,[vB false]] 1)))) ((c2s l z d w).K):=by kernel_rfl
theorem u1V (l z d) (w:ByteArray):(c2s l z d w).K (zkS 37 [(1,(.func (.func e1R) [] [(.ref [(vS w)])])),(2,(.ref [zkP])),(4,.ptr 1 0)] [] [zk8 l z d,[vB false]] 1)=
 .exB fun b=>.exR fun l1=>zkI4 fun i i1 i2 i3=>.exB fun b1=>.call a1g [zkP,vS w] .none [zk8 l z (wrap .i64 (d+1)),[vB false]] (zkR (vB b) [zk1 l1 i i1 i2 i3,[vB b1]]) (.branch (!b) (.branch ((↑l1.length:Int)==0) (.need true (.need true (.need true (.branch false (zkL 1 l1 (.need true (.ret (zkR (.tuple []) [zk28 l1 i i (wrap .i64 (i3-1))])))) (.branch true (.branch (decide (wrap .i64 (i3-1)>0)) (zkL 1 l1 (.need true (.ret (zkQ zkF0 [zk28 l1 i i (wrap .i64 (i3-1))])))) (zkL 1 l1 (.need true (.ret (zkR (.tuple []) [zk28 l1 i i (wrap .i64 (i3-1))]))))) (zkL 1 l1 (.need true (.ret (zkQ zkF0 [zk28 l1 i i (wrap .i64 (i3-1))]))))))))) (.exI fun i4=>.exS fun s=>zkI2 fun i5 i6=>.row l1 0 (zk9 i4 s i5 i6) (.need true (.need true (.need true (.branch false (zkL 1 l1 (.need true (.ret (zkR (.tuple []) [zk28 l1 i i6 (wrap .i64 (i3-1))])))) (.branch true (.branch (decide (wrap .i64 (i3-1)>0)) (zkL 1 l1 (.need true (.ret (zkQ zkF0 [zk28 l1 i i6 (wrap .i64 (i3-1))])))) (zkL 1 l1 (.need true (.ret (zkR (.tuple []) [zk28 l1 i i6 (wrap .i64 (i3-1))]))))) (zkL 1 l1 (.need true (.ret (zkQ zkF0 [zk28 l1 i i6 (wrap .i64 (i3-1))]))))))))))) (.need true (.branch true (zkL 1 l1 (.need true (.ret (zkR (.tuple []) [zk1 l1 i i1 i2 (wrap .i64 (i3-1))])))) (.branch false (.branch (decide (wrap .i64 (i3-1)>0)) (zkL 1 l1 (.need true (.ret (zkQ zkF0 [zk1 l1 i i1 i2 (wrap .i64 (i3-1))])))) (zkL 1 l1 (.need true (.ret (zkR (.tuple []) [zk1 l1 i i1 i2 (wrap .i64 (i3-1))]))))) .fail)))):=by kernel_rfl
@[irreducible] noncomputable def s1y (l:List (List AV)) (z d k:Int):KT:=kt5 a1y [AV.ptr 0 0,vI k] [[AV.slice 4 l Own.no,vI z,vI 0,vI 0,vI d]]
theorem w1r (l z d k):kt5 a1y [AV.ptr 0 0,vI k] [[AV.slice 4 l Own.no,vI z,vI 0,vI 0,vI d]]=
 .stage (.branch false (.branch (!false) (.branch (decide (d>0)) (.out (zkL 1 l (.need true (.ret (zkQ zkF0 [zk8 l z d]))))) (.out (zkL 1 l (.need true (.ret (zkR (vS zkb2) [zk8 l z d])))))) (.out (zkL 1 l (.need true (.ret (zkR (vS zkb2) [zk8 l z d])))))) (.branch (0 !=0) (.branch (!false) (.branch (decide (d>0)) (.out (zkL 1 l (.need true (.ret (zkQ zkF0 [zk8 l z d]))))) (.out (zkL 1 l (.need true (.ret (zkR (vS zkb2) [zk8 l z d])))))) (.out (zkL 1 l (.need true (.ret (zkR (vS zkb2) [zk8 l z d])))))) (.done (zkS 37 [(1,(.func (.func d1b) [] [(.ref [(vI k)])])),(2,(.ref [zkP])),(4,.ptr 1 0)] [] [zk8 l z d,[vS zkb2]] 1)))) ((s1y l z d k).K):=by kernel_rfl
@[irreducible] noncomputable def r1E (l:List (List AV)) (z d k:Int):KT:=(s1y l z d k).K (zkS 37 [(1,(.func (.func d1b) [] [(.ref [(vI k)])])),(2,(.ref [zkP])),(4,.ptr 1 0)] [] [zk8 l z d,[vS zkb2]] 1)
theorem s1z (l z d k):(s1y l z d k).K (zkS 37 [(1,(.func (.func d1b) [] [(.ref [(vI k)])])),(2,(.ref [zkP])),(4,.ptr 1 0)] [] [zk8 l z d,[vS zkb2]] 1)=
 .stage (zk5 a1l [zkP,vI k] [zk8 l z (wrap .i64 (d+1)),[vS zkb2]] (fun b=>.branch (!b) (.branch ((↑l.length:Int)==0) (.need true (.need true (.out (.need true (.branch false (zkL 1 l (.need true (.ret (zkR (vS zkb2) [zk28 l z z (wrap .i64 (wrap .i64 (d+1)-1))])))) (.branch true (.branch (decide (wrap .i64 (wrap .i64 (d+1)-1)>0)) (zkL 1 l (.need true (.ret (zkQ zkF0 [zk28 l z z (wrap .i64 (wrap .i64 (d+1)-1))])))) (zkL 1 l (.need true (.ret (zkR (vS zkb2) [zk28 l z z (wrap .i64 (wrap .i64 (d+1)-1))]))))) (zkL 1 l (.need true (.ret (zkQ zkF0 [zk28 l z z (wrap .i64 (wrap .i64 (d+1)-1))])))))))))) (.exI fun i=>.exS fun s=>zkI2 fun i1 i2=>.row l 0 (zk9 i s i1 i2) (.need true (.need true (.out (.need true (.branch false (zkL 1 l (.need true (.ret (zkR (vS zkb2) [zk28 l z i2 (wrap .i64 (wrap .i64 (d+1)-1))])))) (.branch true (.branch (decide (wrap .i64 (wrap .i64 (d+1)-1)>0)) (zkL 1 l (.need true (.ret (zkQ zkF0 [zk28 l z i2 (wrap .i64 (wrap .i64 (d+1)-1))])))) (zkL 1 l (.need true (.ret (zkR (vS zkb2) [zk28 l z i2 (wrap .i64 (wrap .i64 (d+1)-1))]))))) (zkL 1 l (.need true (.ret (zkQ zkF0 [zk28 l z i2 (wrap .i64 (wrap .i64 (d+1)-1))])))))))))))) (.done (zkS 29 [(0,zkP)] [] [zk8 l z (wrap .i64 (d+1)),[vS zkb2]] 2)))) ((r1E l z d k).K):=by kernel_rfl
theorem s1A (l z d k):(r1E l z d k).K (zkS 29 [(0,zkP)] [] [zk8 l z (wrap .i64 (d+1)),[vS zkb2]] 2)=
 .exI fun i=>.exS fun s=>zkI2 fun i1 i2=>.row l 0 (zk9 i s i1 i2) (.need (decide ((l=[]∨(fun x=>x.size) Pg.types[e1y]=4)∧(0:Int)≤1∧1≤(↑l.length:Int)∧(↑l.length:Int)≤(↑l.length:Int))) (.need true (.branch true (zkL 1 (List.drop (Int.toNat 1) l) (.need true (.ret (zkR (vS s) [zk8 (List.drop (Int.toNat 1) l) z (wrap .i64 (wrap .i64 (d+1)-1))])))) (.branch false (.branch (decide (wrap .i64 (wrap .i64 (d+1)-1)>0)) (zkL 1 (List.drop (Int.toNat 1) l) (.need true (.ret (zkQ zkF0 [zk8 (List.drop (Int.toNat 1) l) z (wrap .i64 (wrap .i64 (d+1)-1))])))) (zkL 1 (List.drop (Int.toNat 1) l) (.need true (.ret (zkR (vS zkb2) [zk8 (List.drop (Int.toNat 1) l) z (wrap .i64 (wrap .i64 (d+1)-1))]))))) .fail)))):=by kernel_rfl
@[irreducible] noncomputable def j2H (l:List (List AV)) (z d:Int):KT:=kt5 a1o [AV.ptr 0 0] [[AV.slice 4 l Own.no,vI z,vI 0,vI 0,vI d]]
theorem f2v (l z d):kt5 a1o [AV.ptr 0 0] [[AV.slice 4 l Own.no,vI z,vI 0,vI 0,vI d]]=
 .stage (.branch false (.branch (!false) (.branch (decide (d>0)) (.out (zkL 1 l (.need true (.ret (zkQ zkF0 [zk8 l z d]))))) (.out (zkL 1 [] (zkL 1 [] (zkL 1 l (.need true (.ret (zkR (.agg (zk29 zkb2)) [zk8 l z d])))))))) (.out (zkL 1 [] (zkL 1 [] (zkL 1 l (.need true (.ret (zkR (.agg (zk29 zkb2)) [zk8 l z d])))))))) (.branch (0 !=0) (.branch (!false) (.branch (decide (d>0)) (.out (zkL 1 l (.need true (.ret (zkQ zkF0 [zk8 l z d]))))) (.out (zkL 1 [] (zkL 1 [] (zkL 1 l (.need true (.ret (zkR (.agg (zk29 zkb2)) [zk8 l z d])))))))) (.out (zkL 1 [] (zkL 1 [] (zkL 1 l (.need true (.ret (zkR (.agg (zk29 zkb2)) [zk8 l z d])))))))) (.done (zkS 37 [(1,(.func (.func b1l) [] [])),(2,(.ref [zkP])),(4,.ptr 1 0)] [] [zk8 l z d,zk17 zkb2] 1)))) ((j2H l z d).K):=by kernel_rfl
theorem z1o (l z d):(j2H l z d).K (zkS 37 [(1,(.func (.func b1l) [] [])),(2,(.ref [zkP])),(4,.ptr 1 0)] [] [zk8 l z d,zk17 zkb2] 1)=
 .alt (.exI fun i=>.exS fun s=>zkR3 fun l1 l2 l3=>zkI5 fun i1 i2 i3 i4 i5=>.exS fun s1=>zkR2 fun l4 l5=>.call b1l [zkP] .none [zk8 l z (wrap .i64 (d+1)),zk17 zkb2] (zkR (.agg (zk6 i s l1 l2)) [zk1 l3 i1 i2 i3 i4,[vI i5,vS s1,.slice 0 l4 .full,.slice 0 l5 .full]]) (.branch true (zkL 1 l1 (zkL 1 l2 (zkL 1 l3 (.need true (.ret (zkR (.agg (zk6 i s l1 l2)) [zk1 l3 i1 i2 i3 (wrap .i64 (i4-1))])))))) (.branch false (.branch (decide (wrap .i64 (i4-1)>0)) (zkL 1 l3 (.need true (.ret (zkQ zkF0 [zk1 l3 i1 i2 i3 (wrap .i64 (i4-1))])))) (zkL 1 [] (zkL 1 [] (zkL 1 l3 (.need true (.ret (zkR (.agg (zk29 zkb2)) [zk1 l3 i1 i2 i3 (wrap .i64 (i4-1))]))))))) .fail))) (.exR fun l1=>zkI5 fun i i1 i2 i3 i4=>.exS fun s=>zkR2 fun l2 l3=>.call b1l [zkP] .none [zk8 l z (wrap .i64 (d+1)),zk17 zkb2] (zkQ zkF0 [zk1 l1 i i1 i2 i3,[vI i4,vS s,.slice 0 l2 .full,.slice 0 l3 .full]]) (.branch false (zkL 1 l2 (zkL 1 l3 (zkL 1 l1 (.need true (.ret (zkR (.agg [vI i4,vS s,(a1D Pg (y_s_string:TypeId) (AV.slice 0 l2 Own.full).dis.dis.dis),(a1D Pg (y_s_api_Ty:TypeId) (AV.slice 0 l3 Own.full).dis.dis.dis)]) [zk1 l1 i i1 i2 (wrap .i64 (i3-1))])))))) (.branch true (.branch (decide (wrap .i64 (i3-1)>0)) (zkL 1 l1 (.need true (.ret (zkQ zkF0 [zk1 l1 i i1 i2 (wrap .i64 (i3-1))])))) (zkL 1 [] (zkL 1 [] (zkL 1 l1 (.need true (.ret (zkR (.agg (zk29 zkb2)) [zk1 l1 i i1 i2 (wrap .i64 (i3-1))]))))))) (zkL 1 l1 (.need true (.ret (zkQ zkF0 [zk1 l1 i i1 i2 (wrap .i64 (i3-1))]))))))):=by kernel_rfl
theorem f2w (l z d):kt5 b1l [AV.ptr 0 0] [[AV.slice 4 l Own.no,vI z,vI 0,vI 0,vI d]]=
 zk63 b1m [zkP] [zk8 l z d] (fun i s l1 l2 l3 i1 i2 i3 i4=>zk20 a1g [zkP,vS zkb5] [zk1 l3 i1 i2 i3 i4] (fun b l4 i5 i6 i7 i8=>.branch b (zk63 a1o [zkP] [zk1 l4 i5 i6 i7 i8] (fun i9 s1 l5 l6 l7 i10 i11 i12 i13=>.need true (.ret (zkR (.agg [vI 3,vS zkb2,zkN 1 [],zkN 4 [zk6 i s l1 l2,zk6 i9 s1 l5 l6]]) [zk1 l7 i10 i11 i12 i13]))) (fun l5 i9 i10 i11 i12=>.need true (.ret (zkQ zkF0 [zk1 l5 i9 i10 i11 i12])))) (.need true (.ret (zkR (.agg (zk6 i s l1 l2)) [zk1 l4 i5 i6 i7 i8]))))) (fun l1 i i1 i2 i3=>.need true (.ret (zkQ zkF0 [zk1 l1 i i1 i2 i3]))):=by kernel_rfl
@[irreducible] noncomputable def p1S (l:List (List AV)) (z d:Int):KT:=kt5 b1m [AV.ptr 0 0] [[AV.slice 4 l Own.no,vI z,vI 0,vI 0,vI d]]
theorem u1W (l z d):kt5 b1m [AV.ptr 0 0] [[AV.slice 4 l Own.no,vI z,vI 0,vI 0,vI d]]=
 zk63 b1j [zkP] [zk8 l z d] (fun i s l1 l2 l3 i1 i2 i3 i4=>((((((((((p1S l z d).T.I i).S s).R l1).R l2).R l3).I i1).I i2).I i3).I i4).T) (fun l1 i i1 i2 i3=>.need true (.ret (zkQ zkF0 [zk1 l1 i i1 i2 i3]))):=by kernel_rfl
@[irreducible] noncomputable def c2t (l:List (List AV)) (z d:Int):KT:=kt5 b1j [AV.ptr 0 0] [[AV.slice 4 l Own.no,vI z,vI 0,vI 0,vI d]]
theorem c2u (l z d):kt5 b1j [AV.ptr 0 0] [[AV.slice 4 l Own.no,vI z,vI 0,vI 0,vI d]]=
 c2t l z d:=by kernel_rfl
@[irreducible] noncomputable def c2v (l:List (List AV)) (z d:Int) (b:Bool):KT:=kt5 b1B [AV.ptr 0 0,vB b] [[AV.slice 4 l Own.no,vI z,vI 0,vI 0,vI d]]
theorem z1p (l z d) (b:Bool):kt5 b1B [AV.ptr 0 0,vB b] [[AV.slice 4 l Own.no,vI z,vI 0,vI 0,vI d]]=
 .stage (.branch false (.branch (!false) (.branch (decide (d>0)) (.out (zkL 1 l (.need true (.ret (zkQ zkF0 [zk8 l z d]))))) (.out (zkL 1 [] (zkL 1 l (.need true (.ret (zkR (zkN 1 []) [zk8 l z d]))))))) (.out (zkL 1 [] (zkL 1 l (.need true (.ret (zkR (zkN 1 []) [zk8 l z d]))))))) (.branch (0 !=0) (.branch (!false) (.branch (decide (d>0)) (.out (zkL 1 l (.need true (.ret (zkQ zkF0 [zk8 l z d]))))) (.out (zkL 1 [] (zkL 1 l (.need true (.ret (zkR (zkN 1 []) [zk8 l z d]))))))) (.out (zkL 1 [] (zkL 1 l (.need true (.ret (zkR (zkN 1 []) [zk8 l z d]))))))) (.done (zkS 37 [(1,(.func (.func e1S) [] [(.ref [(vB b)])])),(2,(.ref [zkP])),(4,.ptr 1 0)] [] [zk8 l z d,[zkE]] 1)))) ((c2v l z d b).K):=by kernel_rfl
theorem u1X (l z d) (b:Bool):(c2v l z d b).K (zkS 37 [(1,(.func (.func e1S) [] [(.ref [(vB b)])])),(2,(.ref [zkP])),(4,.ptr 1 0)] [] [zk8 l z d,[zkE]] 1)=
 .alt (.exR fun l1=>.exB fun b1=>.exR fun l2=>zkI4 fun i i1 i2 i3=>.exR fun l3=>.call a1C [zkP,vB b,vB (!b)] .none [zk8 l z (wrap .i64 (d+1)),[zkE]] (zkR (.tuple [zkN 1 l1,vB b1]) [zk1 l2 i i1 i2 i3,[.slice 0 l3 .full]]) (.need true (.branch true (zkL 1 l1 (zkL 1 l2 (.need true (.ret (zkR (zkN 1 l1) [zk1 l2 i i1 i2 (wrap .i64 (i3-1))]))))) (.branch false (.branch (decide (wrap .i64 (i3-1)>0)) (zkL 1 l2 (.need true (.ret (zkQ zkF0 [zk1 l2 i i1 i2 (wrap .i64 (i3-1))])))) (zkL 1 [] (zkL 1 l2 (.need true (.ret (zkR (zkN 1 []) [zk1 l2 i i1 i2 (wrap .i64 (i3-1))])))))) .fail)))) (.exR fun l1=>zkI4 fun i i1 i2 i3=>.exR fun l2=>.call a1C [zkP,vB b,vB (!b)] .none [zk8 l z (wrap .i64 (d+1)),[zkE]] (zkQ zkF0 [zk1 l1 i i1 i2 i3,[.slice 0 l2 .full]]) (.need true (.branch false (zkL 1 l2 (zkL 1 l1 (.need true (.ret (zkR (List.rec ((fun _=>AV.slice ((fun x=>x.size) Pg.types[b1T]) [] Own.no) ()) (fun head tail tail_ih=>(fun head tail=>(fun r l=>AV.slice 0 (r::l) Own.full) head tail) head tail) l2) [zk1 l1 i i1 i2 (wrap .i64 (i3-1))]))))) (.branch true (.branch (decide (wrap .i64 (i3-1)>0)) (zkL 1 l1 (.need true (.ret (zkQ zkF0 [zk1 l1 i i1 i2 (wrap .i64 (i3-1))])))) (zkL 1 [] (zkL 1 l1 (.need true (.ret (zkR (zkN 1 []) [zk1 l1 i i1 i2 (wrap .i64 (i3-1))])))))) (zkL 1 l1 (.need true (.ret (zkQ zkF0 [zk1 l1 i i1 i2 (wrap .i64 (i3-1))])))))))):=by kernel_rfl
@[irreducible] noncomputable def m1U (l:List (List AV)) (z d:Int) (b b1:Bool):KT:=kt5 a1C [AV.ptr 0 0,vB b,vB b1] [[AV.slice 4 l Own.no,vI z,vI 0,vI 0,vI d]]
theorem r1F (l z d) (b b1:Bool):kt5 a1C [AV.ptr 0 0,vB b,vB b1] [[AV.slice 4 l Own.no,vI z,vI 0,vI 0,vI d]]=
 .branch ((↑l.length:Int)==0) (.need true ((m1U l z d b b1).T.T)) (.exI fun i=>.exS fun s=>zkI2 fun i1 i2=>.row l 0 (zk9 i s i1 i2) (.need true ((((((m1U l z d b b1).F.I i).S s).I i1).I i2).T.T))):=by kernel_rfl
end Go.Proofs
end
