/- Texts of this proof folded into one: P4 Z5 R0 G1 G2 G3 G4 G5 G6 G7 G8 G9 G10 TD R1 G12 U1 Z4 Z7. -/
import Derived.Test.YtmdjdcnabbapgaaGreatDoorV7
import Derived.Lib.Join
import Derived.Test.YtmdjdcnabbapgaaGreatDoorV14
import Derived.Test.YtmdjdcnabbapgaaGreatDoorV6
import Derived.Test.YtmdjdcnabbapgaaGreatDoorV12
section
/- LEX, plain: more of texts in pieces: places, joined tokens. -/
set_option linter.unusedVariables false
set_option linter.unusedSimpArgs false
namespace Go.Lx
variable {res:T→Bool}
theorem Pieces.places {l:T} {a:Nat} {ts:List Tok} (h:Pieces res l a ts):∀t∈ts,a≤t.at_∧t.at_+t.text.length≤a+l.length:=by
 induction h with
 |nil _=>intro t h;cases h
 | @cons b x l a k v ts hb h1 hh ho _ ih=>
  intro t ht
  rw[List.mem_cons] at ht
  rcases ht with rfl|ht
  ·simp;omega
  ·have:=ih t ht
   simp;omega
theorem z1B (x y:T) (r:List T):Lib.join (x::y::r) [32]=x++(32::Lib.join (y::r) [32]):=by
 simp [Lib.join,List.intercalate,List.intersperse]
theorem Pieces.join {l:T} {a:Nat} {ts:List Tok} (h:Pieces res l a ts):∀b,∃us,Pieces res (Lib.join (ts.map (·.text)) [32]) b us∧us.map key=ts.map key:=by
 induction h with
 |nil _=>intro b;exact⟨[],.nil (by rw[List.map_nil];exact Blk.nil),rfl⟩
 | @cons b x l a k v ts hb h1 hh ho _ ih=>
  intro c
  cases ts with
  |nil=>
   have hc:Ctx l []:=.inl rfl
   have hht:=o1n (z:=[]) h1 hh
   have:=Pieces.cons (res:=res) (b:=[]) (a:=c) Blk.nil (s1y h1 hc) hht.1 (m1b hht.2 ho hc) (Pieces.nil Blk.nil)
   refine⟨[⟨k,x,v,c+([]:T).length⟩],?_,?_⟩
   ·simpa [Lib.join,List.intercalate] using this
   ·simp [key]
  |cons u us=>
   simp only[List.map_cons] at ih⊢
   rw[z1B]
   obtain⟨vs,q1,q2⟩:=ih (c+x.length+1)
   have q3:Pieces res (32::Lib.join (u.text::us.map (·.text)) [32]) (c+x.length) vs:=Pieces.blk (b:=[32]) (Blk.cons (by decide) Blk.nil) q1
   have hc:Ctx l (32::Lib.join (u.text::us.map (·.text)) [32]):=.inl rfl
   have hht:=o1n (z:=32::Lib.join (u.text::us.map (·.text)) [32]) h1 hh
   have:=Pieces.cons (res:=res) (b:=[]) (a:=c) Blk.nil (s1y h1 hc) hht.1 (m1b hht.2 ho hc) (by simpa using q3)
   exact⟨_,by simpa using this,by simp [key,q2]⟩
theorem h2E {l:T} {e:Nat} (h:one res l=.error e):e≠0:=by
 cases l with
 |nil=>simp [one] at h;omega
 |cons c r=>
  unfold one at h
  simp only at h
  repeat' split at h
  all_goals (first|(injection h with h;omega)|cases h)
theorem j2z:∀{l:T} {a cnt p e:Nat},lx res l a cnt=.error (p,e)→e≠0∧p≤a+l.length:=by
 intro l
 induction h:l.length using Nat.strongRecOn generalizing l with
 |ind m ih=>
  intro a cnt p e hl
  have hsb:=p1I (l:=l)
  rw[z1z] at hl
  split at hl
  ·injection hl with hl;injection hl with h1 h2;omega
  ·split at hl
   ·cases hl
   ·rename_i c r hd
    have hlen:=congrArg List.length hd
    simp at hlen
    split at hl
    ·rename_i e' h1
     injection hl with hl;injection hl with h2 h3
     have:=h2E h1
     subst h3;exact⟨this,by omega⟩
    ·rename_i k n v h1
     split at hl
     ·injection hl with hl;injection hl with h1 h2;omega
     ·obtain⟨b1,b2,_⟩:=e1f h1
      simp only[List.length_cons] at b2
      cases hx:lx res (r.drop (n-1)) (a+(skp l).1+n) (cnt+1) with
      |ok us=>rw[hx] at hl;cases hl
      |error q=>
       obtain⟨q1,q2⟩:=q
       rw[hx] at hl
       injection hl with hl;injection hl with h2 h3
       subst h2 h3
       have:=ih (r.drop (n-1)).length (by simp;omega) rfl hx
       simp at this;exact⟨this.1,by omega⟩
end Go.Lx
end

section
/- LEX: the laws without the document's answer: LexCovers, LexBlanks, LexSplits, LexBack -/
open Go Go.Eng Go.Lx
namespace Go.Proofs
set_option linter.unusedVariables false
set_option linter.unusedSimpArgs false
set_option maxRecDepth 100000
theorem x1v {s:ByteArray} {ts:List Tok} (h:lexA s=.ok ts):s.size≤4096∧Pieces resP (tx s) 0 ts∧ts.length≤1024:=by
 unfold lexA at h
 split at h
 ·cases h
 ·obtain⟨h1,h2⟩:=c2u (by omega) h
  exact⟨by omega,h1,by omega⟩
theorem i2A {s:ByteArray} {ts:List Tok} (hs:s.size≤4096) (h:Pieces resP (tx s) 0 ts) (hl:ts.length≤1024):lexA s=.ok ts:=by
 unfold lexA
 rw[if_neg (by omega)]
 exact c2v h (by omega)
theorem t1E {s:ByteArray} {p e:Nat} (h:lexA s=.error (p,e)):e≠0∧p≤s.size:=by
 unfold lexA at h
 split at h
 ·injection h with h;injection h with h1 h2;omega
 ·have:=j2z h
  rw[e1e] at this;exact⟨this.1,by omega⟩
theorem m1s (a b:ByteArray):tx (a++b)=tx a++tx b:=by simp [tx]
section
variable {QD:List (St→Prop)} {QR:CRes→Prop}
theorem g2W {s:ByteArray} {K:List (List AV)→Int→Int→KT} (hok:∀ts,lexA s=.ok ts→(K (ts.map tokRow) 0 0).wp Pg cfg0 evp QD QR) (herr:∀p e,lexA s=.error (p,e)→(K [] p e).wp Pg cfg0 evp QD QR):
  (KT.exR fun l=>.exI fun i=>.exI fun i1=>.call c1X [vS s] .none [] ⟨.ret (.tuple [.slice 4 l .no,vI i,vI i1]),.none,[]⟩ (K l i i1)).wp Pg cfg0 evp QD QR:=by
 have h:=c_Lex s
 cases hx:lexA s with
 |ok ts=>rw[hx] at h;exact⟨_,_,_,h,hok ts hx⟩
 |error e=>obtain⟨p,e⟩:=e;rw[hx] at h;exact⟨_,_,_,h,herr p e hx⟩
end
theorem ne0 {e:Nat} (h:e≠0):((e:Int)!=0)=true:=by simp;omega
end Go.Proofs
end

section
/- PARSE: contracts in a heap of one block hold where there are more -/
set_option linter.unusedVariables false
set_option linter.unusedSimpArgs false
open Go Go.Eng
namespace Go.Eng
theorem PExt.extR {g:PExt} (hg:∀f e,g f=some e→∀args v,e args=some v→∀ρ:Nat→Nat,e (args.map (AV.ren ρ))=some (v.ren ρ)) {ρ:Nat→Nat} {n N:Nat} {F:Heap}:ExtR ρ n N F g.ext:=by
 intro f e he args H out H' heq K hK
 unfold PExt.ext at he
 rw[Option.map_eq_some_iff] at he
 obtain⟨e0,he0,rfl⟩:=he
 rw[Option.map_eq_some_iff] at heq
 obtain⟨v,hv,heq⟩:=heq
 injection heq with e1 e2
 subst e1 e2
 exact⟨K,by simp only[hg f e0 he0 args v hv ρ,Option.map_some,g1I],hK⟩
def rho1 (k:Nat) (i:Nat):Nat:=if i=0 then 0 else i+k
def Inv1 (l:List AV):Prop:=∀k,l.map (AV.ren (rho1 k))=l
theorem f2k {P:Program} {cfg:FuncId→FCfg} {g:PExt} (hg:∀f e,g f=some e→∀args v,e args=some v→∀ρ:Nat→Nat,e (args.map (AV.ren ρ))=some (v.ren ρ)) {f:FuncId} {args:List AV} {o:Out} {B B':List AV} {K:Heap} (h:ev P cfg g.ext f args .none [B]=some ⟨o,.none,[B']⟩)
  (ha:Inv1 args) (hB:Inv1 B) (hB':Inv1 B') (ho:∀k,g1I (rho1 k) o=o) (hk:lowss (1+K.length) K=true):ev P cfg g.ext f args .none (B::K)=some ⟨o,.none,B'::K⟩:=by
 have hf:Fr (rho1 K.length) 1 (1+K.length) (B::K):=⟨fun i hi=>by simp only[rho1,if_pos (show i=0 by omega)];omega,fun i hi=>by simp only[rho1];rw[if_neg (by omega)];omega,fun i j hi hj _=>by omega,fun j cs hj hlt hne=>by
  rw[j1W,List.all_eq_true] at hk
  cases j with
  |zero=>exact absurd rfl (hne 0 (by omega))
  |succ j=>exact hk cs (List.mem_of_getElem? (by simpa using hj))⟩
 obtain⟨r,h1,h2⟩:=g2m hf (PExt.extR hg) f args .none [B] _ h (B::K) ⟨by simp,by simp;omega,fun i=>by
  cases i with
  |zero=>simp [rho1,hB K.length]
  |succ i=>simp only[rho1];rw[if_neg (by omega),List.getElem?_eq_none (by simp;omega),List.getElem?_eq_none (by simp)];rfl,fun j hj _=>rfl⟩
 rw[ha K.length] at h1
 have e0:h1A (rho1 K.length) .none=.none:=rfl
 rw[e0] at h1
 rw[h1]
 obtain⟨o',rm',H'⟩:=r
 have e1:=h2.o
 have e2:=h2.rm
 simp only[ho] at e1 e2
 have e3:H'=B'::K:=by
  apply List.ext_getElem?
  intro j
  have hl:=h2.H.len
  simp at hl
  cases j with
  |zero=>
   have:=h2.H.im 0
   simp only[rho1,if_true,List.getElem?_cons_zero,Option.map_some] at this
   have e:=hB' K.length
   rw[this,e];rfl
  |succ j=>
   rcases Nat.lt_or_ge (j+1) (1+K.length) with hj|hj
   ·rw[h2.H.off (j+1) hj fun i hi=>by simp [rho1,show i=0 by omega]];simp
   ·rw[List.getElem?_eq_none (by omega),List.getElem?_eq_none (by simp;omega)]
 rw[e1,e2,e3];rfl
end Go.Eng
end

section
/- PARSE, plain: what tokens are asq types, patterns, expressions (chapter 5), by fuel; z: the place of the text's end -/
set_option linter.unusedVariables false
set_option linter.unusedSimpArgs false
namespace Go.Pa
open Go.Lx (T Tok)
inductive Ty where
 |var (n:T)
 |con (p:List T)
 |fn (a b:Ty)
 |pair (a b:Ty)
 deriving Inhabited
inductive Pat where
 |any
 |var (n:T)
 |int (n:Nat)
 |tru
 |fls
 |unit
 |pair (a b:Pat)
 |con (p:List T)
 |conA (p:List T) (a:Pat)
 deriving Inhabited
mutual
inductive Exp where
 |int (n:Nat)
 |tru
 |fls
 |unit
 |var (p:List T)
 |con (p:List T)
 |fn (p:Pat) (x:Exp)
 |app (f x:Exp)
 |pair (a b:Exp)
 |lets (l:List Dec) (x:Exp)
 |ite (c a b:Exp)
 |cases (x:Exp) (l:List (Pat×Exp))
 |bin (op:Nat) (a b:Exp)
 |ann (x:Exp) (t:Ty)
inductive Dec where
 |val (at_:Nat) (n:T) (t:Option Ty) (x:Exp)
 |func (at_:Nat) (n:T) (ps:List T) (t:Option Ty) (x:Exp)
end
instance:Inhabited Exp:=⟨.unit⟩
instance:Inhabited Dec:=⟨.val 0 [] none .unit⟩
inductive Res (α:Type) where
 |ok (a:α) (r:List Tok)
 |no (e at_:Nat)
def Res.bind {α β:Type} (x:Res α) (f:α→List Tok→Res β):Res β:=
 match x with
 | .ok a r=>f a r
 | .no e p=>.no e p
def pl (z:Nat):List Tok→Nat
 |[]=>z
 |t::_=>t.at_
def isW (w:T):List Tok→Bool
 |[]=>false
 |t::_=>(t.kind==3||t.kind==6)&&decide (t.text=w)
def ofK (k:Nat):List Tok→Bool
 |[]=>false
 |t::_=>t.kind==k
def txt:List Tok→T
 |[]=>[]
 |t::_=>t.text
def num:List Tok→Nat
 |[]=>0
 |t::_=>t.n
def need (z:Nat) (w:T) (l:List Tok):Res Unit:=if isW w l then .ok () l.tail else .no 11 (pl z l)
def taken (z k:Nat):List Tok→Res T
 |[]=>.no 11 z
 |t::r=>if t.kind==k then .ok t.text r else .no 11 t.at_
def wDot:T:=[46]
def x1L:T:=[45,62]
def m1P:T:=[42]
def wOpen:T:=[40]
def wClose:T:=[41]
def wComma:T:=[44]
def p1z:T:=[58]
def wEq:T:=[61]
def wLt:T:=[60]
def z1k:T:=[43]
def r1w:T:=[45]
def r1x:T:=[47]
def wBar:T:=[124]
def wDo:T:=[61,62]
def wAny:T:=[95]
def wInt:T:=[105,110,116]
def b2Y:T:=[98,111,111,108]
def b2Z:T:=[117,110,105,116]
def m1a:T:=[116,114,117,101]
def h1O:T:=[102,97,108,115,101]
def wFn:T:=[102,110]
def wIf:T:=[105,102]
def h2f:T:=[116,104,101,110]
def h2g:T:=[101,108,115,101]
def wLet:T:=[108,101,116]
def wIn:T:=[105,110]
def wEnd:T:=[101,110,100]
def q1L:T:=[99,97,115,101]
def wOf:T:=[111,102]
def wVal:T:=[118,97,108]
def wFun:T:=[102,117,110]
def path (z:Nat) (lower upper:Bool) (start:Nat) (p:List T):List Tok→Res (List T×Bool)
 |[]=>.no 11 z
 |t::l=>
  if t.kind==2||(t.kind==1&&lower) then
   if 8<p.length+1 then .no 3 start
   else if t.kind==1 then .ok (p++[t.text],true) l
   else match l with
    |[]=>if upper then .ok (p++[t.text],false) [] else .no 11 z
    |d::l'=>if isW wDot [d] then path z lower upper start (p++[t.text]) l'
      else if upper then .ok (p++[t.text],false) (d::l') else .no 11 d.at_
  else .no 11 t.at_
mutual
def pTy (z:Nat):Nat→List Tok→Res Ty
 |0,_=>.no 0 0
 |n+1,l=>(g1a z n l).bind fun t r=>if isW x1L r then (pTy z n r.tail).bind fun u r=>.ok (.fn t u) r else .ok t r
def g1a (z:Nat):Nat→List Tok→Res Ty
 |0,_=>.no 0 0
 |n+1,l=>(pAty z n l).bind fun t r=>d1A z n t r
def d1A (z:Nat):Nat→Ty→List Tok→Res Ty
 |0,_,_=>.no 0 0
 |n+1,t,l=>if isW m1P l then (pAty z n l.tail).bind fun u r=>d1A z n (.pair t u) r else .ok t l
def pAty (z:Nat):Nat→List Tok→Res Ty
 |0,_=>.no 0 0
 |n+1,l=>
  if isW wInt l then .ok (.con [wInt]) l.tail
  else if isW b2Y l then .ok (.con [b2Y]) l.tail
  else if isW b2Z l then .ok (.con [b2Z]) l.tail
  else if ofK 5 l then .ok (.var ((txt l).drop 1)) l.tail
  else if isW wOpen l then (pTy z n l.tail).bind fun t r=>(need z wClose r).bind fun _ r=>.ok t r
  else (path z true false (pl z l) [] l).bind fun x r=>.ok (.con x.1) r
end
def begP (l:List Tok):Bool:=ofK 1 l||(ofK 2 l||(ofK 4 l||(isW wAny l||(isW m1a l||(isW h1O l||isW wOpen l)))))
mutual
def pPat (z:Nat):Nat→List Tok→Res Pat
 |0,_=>.no 0 0
 |n+1,l=>
  if ofK 2 l then (path z false true (pl z l) [] l).bind fun x r=>if begP r then (pAp z n r).bind fun a r=>.ok (.conA x.1 a) r else .ok (.con x.1) r
  else pAp z n l
def pAp (z:Nat):Nat→List Tok→Res Pat
 |0,_=>.no 0 0
 |n+1,l=>
  if isW wAny l then .ok .any l.tail
  else if isW m1a l then .ok .tru l.tail
  else if isW h1O l then .ok .fls l.tail
  else if ofK 4 l then .ok (.int (num l)) l.tail
  else if ofK 1 l then .ok (.var (txt l)) l.tail
  else if ofK 2 l then (path z false true (pl z l) [] l).bind fun x r=>.ok (.con x.1) r
  else (need z wOpen l).bind fun _ l=>
   if isW wClose l then .ok .unit l.tail
   else (pPat z n l).bind fun p r=>
    if isW wComma r then (pPat z n r.tail).bind fun q r=>(need z wClose r).bind fun _ r=>.ok (.pair p q) r
    else (need z wClose r).bind fun _ r=>.ok p r
end
def begE (l:List Tok):Bool:=ofK 4 l||(ofK 1 l||(ofK 2 l||(isW m1a l||(isW h1O l||(isW wOpen l||(isW wLet l||isW q1L l))))))
def opAt (lv:Nat) (l:List Tok):Nat:=
 match lv with
 |0=>if isW wEq l then 5 else if isW wLt l then 6 else 0
 |1=>if isW z1k l then 1 else if isW r1w l then 2 else 0
 |_=>if isW m1P l then 3 else if isW r1x l then 4 else 0
def params (z:Nat):List T→List Tok→List T×List Tok
 |ps,[]=>(ps,[])
 |ps,t::l=>if t.kind==1 then params z (ps++[t.text]) l else (ps,t::l)
mutual
def pExp (z:Nat):Nat→List Tok→Res Exp
 |0,_=>.no 0 0
 |n+1,l=>
  if isW wFn l then (pPat z n l.tail).bind fun p r=>(need z wDo r).bind fun _ r=>(pExp z n r).bind fun x r=>.ok (.fn p x) r
  else if isW wIf l then (pExp z n l.tail).bind fun c r=>(need z h2f r).bind fun _ r=>(pExp z n r).bind fun a r=>(need z h2g r).bind fun _ r=>(pExp z n r).bind fun b r=>.ok (.ite c a b) r
  else pBin z n 0 l
def pBin (z:Nat):Nat→Nat→List Tok→Res Exp
 |0,_,_=>.no 0 0
 |n+1,lv,l=>if lv==3 then pApp z n l else (pBin z n (lv+1) l).bind fun x r=>pOps z n lv x r
def pOps (z:Nat):Nat→Nat→Exp→List Tok→Res Exp
 |0,_,_,_=>.no 0 0
 |n+1,lv,x,l=>
  if opAt lv l==0 then .ok x l
  else (pBin z n (lv+1) l.tail).bind fun y r=>if lv==0 then .ok (.bin (opAt lv l) x y) r else pOps z n lv (.bin (opAt lv l) x y) r
def pApp (z:Nat):Nat→List Tok→Res Exp
 |0,_=>.no 0 0
 |n+1,l=>(e1F z n l).bind fun x r=>f1H z n x r
def f1H (z:Nat):Nat→Exp→List Tok→Res Exp
 |0,_,_=>.no 0 0
 |n+1,x,l=>if begE l then (e1F z n l).bind fun y r=>f1H z n (.app x y) r else .ok x l
def e1F (z:Nat):Nat→List Tok→Res Exp
 |0,_=>.no 0 0
 |n+1,l=>
  if ofK 4 l then .ok (.int (num l)) l.tail
  else if isW wLet l then (g1F z n [] l.tail).bind fun ds r=>(need z wIn r).bind fun _ r=>(pExp z n r).bind fun x r=>(need z wEnd r).bind fun _ r=>.ok (.lets ds x) r
  else if isW q1L l then (pExp z n l.tail).bind fun x r=>(need z wOf r).bind fun _ r=>(d1B z n [] (if isW wBar r then r.tail else r)).bind fun bs r=>.ok (.cases x bs) r
  else if isW m1a l then .ok .tru l.tail
  else if isW h1O l then .ok .fls l.tail
  else if ofK 1 l||ofK 2 l then (path z true true (pl z l) [] l).bind fun x r=>.ok (if x.2 then .var x.1 else .con x.1) r
  else (need z wOpen l).bind fun _ l=>
   if isW wClose l then .ok .unit l.tail
   else (pExp z n l).bind fun x r=>
    if isW wComma r then (pExp z n r.tail).bind fun y r=>(need z wClose r).bind fun _ r=>.ok (.pair x y) r
    else if isW p1z r then (pTy z n r.tail).bind fun t r=>(need z wClose r).bind fun _ r=>.ok (.ann x t) r
    else (need z wClose r).bind fun _ r=>.ok x r
def d1B (z:Nat):Nat→List (Pat×Exp)→List Tok→Res (List (Pat×Exp))
 |0,_,_=>.no 0 0
 |n+1,bs,l=>(pPat z n l).bind fun p r=>(need z wDo r).bind fun _ r=>(pExp z n r).bind fun x r=>
   if isW wBar r then d1B z n (bs++[(p,x)]) r.tail else (need z wEnd r).bind fun _ r=>.ok (bs++[(p,x)]) r
def g1F (z:Nat):Nat→List Dec→List Tok→Res (List Dec)
 |0,_,_=>.no 0 0
 |n+1,ds,l=>if isW wVal l||isW wFun l then (pDec z n l).bind fun d r=>g1F z n (ds++[d]) r else .ok ds l
def pDec (z:Nat):Nat→List Tok→Res Dec
 |0,_=>.no 0 0
 |n+1,l=>
  if isW wVal l then (taken z 1 l.tail).bind fun nm r=>(g1b z n r).bind fun b r=>.ok (.val (pl z l) nm b.1 b.2) r
  else (need z wFun l).bind fun _ r=>(taken z 1 r).bind fun nm r=>(taken z 1 r).bind fun p r=>(g1b z n (params z [p] r).2).bind fun b r'=>.ok (.func (pl z l) nm (params z [p] r).1 b.1 b.2) r'
def g1b (z:Nat):Nat→List Tok→Res (Option Ty×Exp)
 |0,_=>.no 0 0
 |n+1,l=>
  if isW p1z l then (pTy z n l.tail).bind fun t r=>(need z wEq r).bind fun _ r=>(pExp z n r).bind fun x r=>.ok (some t,x) r
  else (need z wEq l).bind fun _ r=>(pExp z n r).bind fun x r=>.ok (none,x) r
end
def whole {α:Type} (z:Nat) (x:Res α):Except (Nat×Nat) α:=
 match x with
 | .no e p=>.error (p,e)
 | .ok a []=>.ok a
 | .ok a (t::_)=>.error (t.at_,11)
end Go.Pa
end

section
/- PARSE, plain: rules take tokens: what is left is less -/
set_option linter.unusedVariables false
set_option linter.unusedSimpArgs false
namespace Go.Pa
open Go.Lx (T Tok)
theorem f1c {α β:Type} {x:Res α} {f:α→List Tok→Res β} {b:β} {r:List Tok}:x.bind f=.ok b r↔∃a r1,x=.ok a r1∧f a r1=.ok b r:=by
 cases x with
 |ok a r1=>exact⟨fun h=>⟨a,r1,rfl,h⟩,fun ⟨_,_,e,h⟩=>(by cases e;exact h)⟩
 |no e p=>exact⟨fun h=>(by cases h),fun ⟨_,_,e,_⟩=>(by cases e)⟩
theorem a1T {w:T} {l:List Tok} (h:isW w l=true):l.tail.length<l.length:=by
 cases l with
 |nil=>cases h
 |cons t l=>simp
theorem p1C {k:Nat} {l:List Tok} (h:ofK k l=true):l.tail.length<l.length:=by
 cases l with
 |nil=>cases h
 |cons t l=>simp
theorem c1K {z:Nat} {w:T} {l r:List Tok} {u:Unit} (h:need z w l=.ok u r):r.length<l.length:=by
 unfold need at h
 split at h
 ·rename_i hw;injection h with _ h;subst h;exact a1T hw
 ·cases h
theorem k1d {z k:Nat} {l r:List Tok} {x:T} (h:taken z k l=.ok x r):r.length<l.length:=by
 cases l with
 |nil=>cases h
 |cons t l=>
  simp only[taken] at h
  split at h
  ·injection h with _ h;subst h;simp
  ·cases h
theorem s1p {z:Nat} {lower upper:Bool} {start:Nat}:∀(k:Nat) {l r:List Tok} {p:List T} {x:List T×Bool},l.length≤k→path z lower upper start p l=.ok x r→r.length<l.length:=by
 intro k
 induction k with
 |zero=>intro l r p x hk h;cases l with
  |nil=>unfold path at h;cases h
  |cons t l=>simp at hk
 |succ k ih=>
  intro l r p x hk h
  cases l with
  |nil=>unfold path at h;cases h
  |cons t l=>
   unfold path at h
   split at h
   ·split at h
    ·cases h
    ·split at h
     ·injection h with _ h;subst h;simp
     ·split at h
      ·split at h
       ·injection h with _ h;subst h;simp
       ·cases h
      ·rename_i d l'
       split at h
       ·have:=ih (by simp at hk;omega) h
        simp;omega
       ·split at h
        ·injection h with _ h;subst h;simp
        ·cases h
   ·cases h
theorem r1z:∀(l:List Tok) (ps:List T),(params 0 ps l).2.length≤l.length:=by
 intro l
 induction l with
 |nil=>intro ps;simp [params]
 |cons t l ih=>
  intro ps
  rw[params]
  split
  ·have:=ih (ps++[t.text]);simp;omega
  ·simp
theorem x1P (z:Nat):∀(l:List Tok) (ps:List T),params z ps l=params 0 ps l:=by
 intro l
 induction l with
 |nil=>intro ps;simp [params]
 |cons t l ih=>intro ps;rw[params,params,ih]
structure LenT (z n:Nat):Prop where
 ty:∀{l r x},pTy z n l=.ok x r→r.length<l.length
 pair:∀{l r x},g1a z n l=.ok x r→r.length<l.length
 pairs:∀{t l r x},d1A z n t l=.ok x r→r.length≤l.length
 aty:∀{l r x},pAty z n l=.ok x r→r.length<l.length
theorem lenT (z:Nat):∀n,LenT z n:=by
 intro n
 induction n with
 |zero=>exact⟨fun h=>(by rw[pTy] at h;cases h),fun h=>(by rw[g1a] at h;cases h),fun h=>(by rw[d1A] at h;cases h),fun h=>(by rw[pAty] at h;cases h)⟩
 |succ n ih=>
  refine⟨fun {l r x} h=>?_,fun {l r x} h=>?_,fun {t l r x} h=>?_,fun {l r x} h=>?_⟩
  ·rw[pTy,f1c] at h
   obtain⟨a,r1,h1,h⟩:=h
   have k1:=ih.pair h1
   split at h
   ·rename_i hw
    have:=a1T hw
    obtain⟨b,r2,h2,h⟩:=f1c.1 h
    injection h with _ h;subst h
    have:=ih.ty h2;omega
   ·injection h with _ h;subst h;exact k1
  ·rw[g1a,f1c] at h
   obtain⟨a,r1,h1,h⟩:=h
   have k1:=ih.aty h1
   have:=ih.pairs h;omega
  ·rw[d1A] at h
   split at h
   ·rename_i hw
    have:=a1T hw
    obtain⟨b,r2,h2,h⟩:=f1c.1 h
    have:=ih.aty h2
    have:=ih.pairs h;omega
   ·injection h with _ h;subst h;exact Nat.le_refl _
  ·rw[pAty] at h
   split at h
   ·rename_i hw;injection h with _ h;subst h;exact a1T hw
   ·split at h
    ·rename_i hw;injection h with _ h;subst h;exact a1T hw
    ·split at h
     ·rename_i hw;injection h with _ h;subst h;exact a1T hw
     ·split at h
      ·rename_i hw;injection h with _ h;subst h;exact p1C hw
      ·split at h
       ·rename_i hw
        have:=a1T hw
        obtain⟨b,r2,h2,h⟩:=f1c.1 h
        obtain⟨u,r3,h3,h⟩:=f1c.1 h
        injection h with _ h;subst h
        have:=ih.ty h2
        have:=c1K h3;omega
       ·obtain⟨b,r2,h2,h⟩:=f1c.1 h
        injection h with _ h;subst h
        exact s1p _ (Nat.le_refl _) h2
end Go.Pa
end

section
/- PARSE, plain: what is left is less: patterns, expressions -/
set_option linter.unusedVariables false
set_option linter.unusedSimpArgs false
namespace Go.Pa
open Go.Lx (T Tok)
def Sh {α:Type} (x:Res α) (k:Nat):Prop:=∀a r,x=.ok a r→r.length<k
theorem Sh.ok {α:Type} {a:α} {r:List Tok} {k:Nat} (h:r.length<k):Sh (.ok a r) k:=fun _ _ e=>by injection e with _ e;subst e;exact h
theorem Sh.no {α:Type} {e p k:Nat}:Sh (.no e p:Res α) k:=fun _ _ e=>by cases e
theorem Sh.bind {α β:Type} {x:Res α} {f:α→List Tok→Res β} {j k:Nat} (h:Sh x j) (hf:∀a r,r.length<j→Sh (f a r) k):Sh (x.bind f) k:=fun b r e=>by
 obtain⟨a,r1,h1,h2⟩:=f1c.1 e
 exact hf a r1 (h a r1 h1) b r h2
theorem Sh.ite {α:Type} {c:Prop} [Decidable c] {x y:Res α} {k:Nat} (h1:c→Sh x k) (h2:¬c→Sh y k):Sh (if c then x else y) k:=by
 split
 ·exact h1 ‹_›
 ·exact h2 ‹_›
theorem Sh.need {z:Nat} {w:T} {l:List Tok}:Sh (need z w l) l.length:=fun _ _ e=>c1K e
theorem Sh.taken {z k:Nat} {l:List Tok}:Sh (taken z k l) l.length:=fun _ _ e=>k1d e
theorem Sh.path {z:Nat} {a b:Bool} {s:Nat} {p:List T} {l:List Tok}:Sh (path z a b s p l) l.length:=fun _ _ e=>s1p _ (Nat.le_refl _) e
theorem Sh.ty {z n:Nat} {l:List Tok}:Sh (pTy z n l) l.length:=fun _ _ e=>(lenT z n).ty e
theorem f1z (l:List Tok):l.tail.length≤l.length:=by cases l<;>simp
structure LenP (z n:Nat):Prop where
 pat:∀{l},Sh (pPat z n l) l.length
 ap:∀{l},Sh (pAp z n l) l.length
theorem lenP (z:Nat):∀n,LenP z n:=by
 intro n
 induction n with
 |zero=>exact⟨fun {l}=>(by rw[pPat];exact Sh.no),fun {l}=>(by rw[pAp];exact Sh.no)⟩
 |succ n ih=>
  constructor
  ·intro l
   rw[pPat]
   repeat' first
    |exact ih.ap
    |refine Sh.ite (fun hw=>?_) (fun hw=>?_)
    |refine Sh.bind Sh.path (fun a r h=>?_)
    |refine Sh.bind ih.ap (fun a r h=>?_)
    |(refine Sh.ok ?_;omega)
  ·intro l
   have ht:=f1z l
   rw[pAp]
   repeat' first
    |(refine Sh.ite (fun hw=>?_) (fun hw=>?_))
    |(refine Sh.ok ?_;have:=a1T ‹_›;omega)
    |(refine Sh.ok ?_;have:=p1C ‹_›;omega)
    |refine Sh.bind Sh.path (fun a r h=>?_)
    |refine Sh.bind Sh.need (fun a r h=>?_)
    |refine Sh.bind ih.pat (fun a r h=>?_)
    |(refine Sh.ok ?_;omega)
    |(refine Sh.ok ?_;rename_i r _ _;have:=f1z r;omega)
structure LenE (z n:Nat):Prop where
 exp:∀{l},Sh (pExp z n l) l.length
 bin:∀{lv l},Sh (pBin z n lv l) l.length
 ops:∀{lv x l},Sh (pOps z n lv x l) (l.length+1)
 app:∀{l},Sh (pApp z n l) l.length
 apps:∀{x l},Sh (f1H z n x l) (l.length+1)
 atom:∀{l},Sh (e1F z n l) l.length
 cases:∀{bs l},Sh (d1B z n bs l) l.length
 decs:∀{ds l},Sh (g1F z n ds l) (l.length+1)
 dec:∀{l},Sh (pDec z n l) l.length
 body:∀{l},Sh (g1b z n l) l.length
theorem s1q {lv:Nat} {l:List Tok} (h:¬(opAt lv l==0)=true):l.tail.length<l.length:=by
 cases l with
 |nil=>exfalso;apply h;unfold opAt;split<;>rfl
 |cons t l=>simp
theorem x1Q {l:List Tok} (h:begE l=true):l.tail.length<l.length:=by
 cases l with
 |nil=>cases h
 |cons t l=>simp
theorem lenE (z:Nat):∀n,LenE z n:=by
 intro n
 induction n with
 |zero=>exact⟨fun {l}=>(by rw[pExp];exact Sh.no),fun {lv l}=>(by rw[pBin];exact Sh.no),fun {lv x l}=>(by rw[pOps];exact Sh.no),fun {l}=>(by rw[pApp];exact Sh.no),fun {x l}=>(by rw[f1H];exact Sh.no),fun {l}=>(by rw[e1F];exact Sh.no),fun {bs l}=>(by rw[d1B];exact Sh.no),fun {ds l}=>(by rw[g1F];exact Sh.no),fun {l}=>(by rw[pDec];exact Sh.no),fun {l}=>(by rw[g1b];exact Sh.no)⟩
 |succ n ih=>
  constructor
  ·intro l
   have ht:=f1z l
   rw[pExp]
   refine Sh.ite (fun hw=>?_) (fun hw=>Sh.ite (fun hw=>?_) (fun hw=>fun a r e=>ih.bin a r e))
   ·have:=a1T hw
    exact Sh.bind (lenP z n).pat fun a r h=>Sh.bind Sh.need fun a r h=>Sh.bind ih.exp fun a r h=>Sh.ok (by omega)
   ·have:=a1T hw
    exact Sh.bind ih.exp fun a r h=>Sh.bind Sh.need fun a r h=>Sh.bind ih.exp fun a r h=>Sh.bind Sh.need fun a r h=>Sh.bind ih.exp fun a r h=>Sh.ok (by omega)
  ·intro lv l
   rw[pBin]
   refine Sh.ite (fun hw=>fun a r e=>ih.app a r e) (fun hw=>?_)
   exact Sh.bind ih.bin fun a r h=>fun b r' e=>by have:=ih.ops b r' e;omega
  ·intro lv x l
   rw[pOps]
   refine Sh.ite (fun hw=>Sh.ok (by omega)) (fun hw=>?_)
   have:=s1q hw
   exact Sh.bind ih.bin fun a r h=>Sh.ite (fun _=>Sh.ok (by omega)) (fun _=>fun b r' e=>by have:=ih.ops b r' e;omega)
  ·intro l
   rw[pApp]
   exact Sh.bind ih.atom fun a r h=>fun b r' e=>by have:=ih.apps b r' e;omega
  ·intro x l
   rw[f1H]
   refine Sh.ite (fun hw=>?_) (fun hw=>Sh.ok (by omega))
   have:=x1Q hw
   exact Sh.bind ih.atom fun a r h=>fun b r' e=>by have:=ih.apps b r' e;omega
  ·intro l
   have ht:=f1z l
   rw[e1F]
   refine Sh.ite (fun hw=>Sh.ok (p1C hw)) (fun _=>Sh.ite (fun hw=>?_) (fun _=>Sh.ite (fun hw=>?_) (fun _=>Sh.ite (fun hw=>Sh.ok (a1T hw)) (fun _=>Sh.ite (fun hw=>Sh.ok (a1T hw)) (fun _=>Sh.ite (fun hw=>?_) (fun _=>?_))))))
   ·have:=a1T hw
    exact Sh.bind ih.decs fun a r h=>Sh.bind Sh.need fun a r h=>Sh.bind ih.exp fun a r h=>Sh.bind Sh.need fun a r h=>Sh.ok (by omega)
   ·have:=a1T hw
    refine Sh.bind ih.exp fun a r h=>Sh.bind Sh.need fun a r h=>Sh.bind (ih.cases) fun a r' h'=>Sh.ok ?_
    have:=f1z r
    split at h'<;>omega
   ·exact Sh.bind Sh.path fun a r h=>Sh.ok (by omega)
   ·refine Sh.bind Sh.need fun a r h=>Sh.ite (fun hw=>Sh.ok (by have:=a1T hw;omega)) (fun _=>Sh.bind ih.exp fun a r h=>?_)
    have:=f1z r
    refine Sh.ite (fun hw=>Sh.bind ih.exp fun a r h=>Sh.bind Sh.need fun a r h=>Sh.ok (by omega)) (fun _=>Sh.ite (fun hw=>Sh.bind Sh.ty fun a r h=>Sh.bind Sh.need fun a r h=>Sh.ok (by omega)) (fun _=>Sh.bind Sh.need fun a r h=>Sh.ok (by omega)))
  ·intro bs l
   rw[d1B]
   refine Sh.bind (lenP z n).pat fun a r h=>Sh.bind Sh.need fun a r h=>Sh.bind ih.exp fun a r h=>?_
   have:=f1z r
   exact Sh.ite (fun hw=>fun b r' e=>by have:=ih.cases b r' e;omega) (fun _=>Sh.bind Sh.need fun a r h=>Sh.ok (by omega))
  ·intro ds l
   rw[g1F]
   exact Sh.ite (fun hw=>Sh.bind ih.dec fun a r h=>fun b r' e=>by have:=ih.decs b r' e;omega) (fun _=>Sh.ok (by omega))
  ·intro l
   have ht:=f1z l
   rw[pDec]
   refine Sh.ite (fun hw=>?_) (fun _=>?_)
   ·have:=a1T hw
    exact Sh.bind Sh.taken fun a r h=>Sh.bind ih.body fun a r h=>Sh.ok (by omega)
   ·refine Sh.bind Sh.need fun a r h=>Sh.bind Sh.taken fun a r h=>Sh.bind Sh.taken fun a r h=>?_
    have:=r1z r [a]
    rw[←x1P z] at this
    exact Sh.bind ih.body fun b r' h=>Sh.ok (by omega)
  ·intro l
   have ht:=f1z l
   rw[g1b]
   refine Sh.ite (fun hw=>?_) (fun _=>?_)
   ·have:=a1T hw
    exact Sh.bind Sh.ty fun a r h=>Sh.bind Sh.need fun a r h=>Sh.bind ih.exp fun a r h=>Sh.ok (by omega)
   ·exact Sh.bind Sh.need fun a r h=>Sh.bind ih.exp fun a r h=>Sh.ok (by omega)
end Go.Pa
end

section
/- PARSE, plain: more fuel changes nothing, where there is enough -/
set_option linter.unusedVariables false
set_option linter.unusedSimpArgs false
namespace Go.Pa
open Go.Lx (T Tok)
theorem a1x {α β:Type} {x y:Res α} {f g:α→List Tok→Res β} {k:Nat} (h:x=y) (hx:Sh x k) (hf:∀a r,r.length<k→f a r=g a r):x.bind f=y.bind g:=by
 subst h
 cases x with
 |ok a r=>exact hf a r (hx a r rfl)
 |no e p=>rfl
theorem a1O {α:Type} {c:Prop} [Decidable c] {x y x' y':α} (h1:c→x=x') (h2:¬c→y=y'):(if c then x else y)=(if c then x' else y'):=by
 split
 ·exact h1 ‹_›
 ·exact h2 ‹_›
theorem Sh.pair {z n:Nat} {l:List Tok}:Sh (g1a z n l) l.length:=fun _ _ e=>(lenT z n).pair e
theorem Sh.aty {z n:Nat} {l:List Tok}:Sh (pAty z n l) l.length:=fun _ _ e=>(lenT z n).aty e
structure FuT (z n:Nat):Prop where
 ty:∀{l},8*l.length+3≤n→pTy z n l=pTy z (n+1) l
 pair:∀{l},8*l.length+2≤n→g1a z n l=g1a z (n+1) l
 pairs:∀{t l},8*l.length+1≤n→d1A z n t l=d1A z (n+1) t l
 aty:∀{l},8*l.length+1≤n→pAty z n l=pAty z (n+1) l
theorem fuT (z:Nat):∀n,FuT z n:=by
 intro n
 induction n with
 |zero=>exact⟨fun h=>(by omega),fun h=>(by omega),fun h=>(by omega),fun h=>(by omega)⟩
 |succ n ih=>
  constructor
  ·intro l h
   rw[pTy,pTy]
   refine a1x (ih.pair (by omega)) Sh.pair fun a r hr=>a1O (fun hw=>?_) (fun _=>rfl)
   have:=a1T hw
   exact a1x (ih.ty (by omega)) Sh.ty fun _ _ _=>rfl
  ·intro l h
   rw[g1a,g1a]
   exact a1x (ih.aty (by omega)) Sh.aty fun a r hr=>ih.pairs (by omega)
  ·intro t l h
   rw[d1A,d1A]
   refine a1O (fun hw=>?_) (fun _=>rfl)
   have:=a1T hw
   exact a1x (ih.aty (by omega)) Sh.aty fun a r hr=>ih.pairs (by omega)
  ·intro l h
   rw[pAty,pAty]
   refine a1O (fun _=>rfl) fun _=>a1O (fun _=>rfl) fun _=>a1O (fun _=>rfl) fun _=>a1O (fun _=>rfl) fun _=>a1O (fun hw=>?_) fun _=>rfl
   have:=a1T hw
   exact a1x (ih.ty (by omega)) Sh.ty fun _ _ _=>rfl
structure FuP (z n:Nat):Prop where
 pat:∀{l},8*l.length+2≤n→pPat z n l=pPat z (n+1) l
 ap:∀{l},8*l.length+1≤n→pAp z n l=pAp z (n+1) l
theorem fuP (z:Nat):∀n,FuP z n:=by
 intro n
 induction n with
 |zero=>exact⟨fun h=>(by omega),fun h=>(by omega)⟩
 |succ n ih=>
  constructor
  ·intro l h
   rw[pPat,pPat]
   refine a1O (fun hw=>?_) (fun _=>ih.ap (by omega))
   exact a1x rfl Sh.path fun a r hr=>a1O (fun _=>a1x (ih.ap (by omega)) (lenP z n).ap fun _ _ _=>rfl) (fun _=>rfl)
  ·intro l h
   rw[pAp,pAp]
   refine a1O (fun _=>rfl) fun _=>a1O (fun _=>rfl) fun _=>a1O (fun _=>rfl) fun _=>a1O (fun _=>rfl) fun _=>a1O (fun _=>rfl) fun _=>a1O (fun _=>rfl) fun _=>?_
   refine a1x rfl Sh.need fun a r hr=>a1O (fun _=>rfl) fun _=>a1x (ih.pat (by omega)) (lenP z n).pat fun b r' hr'=>a1O (fun hw=>?_) fun _=>rfl
   have:=a1T hw
   exact a1x (ih.pat (by omega)) (lenP z n).pat fun _ _ _=>rfl
structure FuE (z n:Nat):Prop where
 exp:∀{l},8*l.length+7≤n→pExp z n l=pExp z (n+1) l
 bin:∀{lv l},lv≤3→8*l.length+6-lv≤n→pBin z n lv l=pBin z (n+1) lv l
 ops:∀{lv x l},lv<3→8*l.length+1≤n→pOps z n lv x l=pOps z (n+1) lv x l
 app:∀{l},8*l.length+2≤n→pApp z n l=pApp z (n+1) l
 apps:∀{x l},8*l.length+2≤n→f1H z n x l=f1H z (n+1) x l
 atom:∀{l},8*l.length+1≤n→e1F z n l=e1F z (n+1) l
 cases:∀{bs l},8*l.length+3≤n→d1B z n bs l=d1B z (n+1) bs l
 decs:∀{ds l},8*l.length+2≤n→g1F z n ds l=g1F z (n+1) ds l
 dec:∀{l},8*l.length+1≤n→pDec z n l=pDec z (n+1) l
 body:∀{l},8*l.length+1≤n→g1b z n l=g1b z (n+1) l
theorem fuE (z:Nat):∀n,FuE z n:=by
 intro n
 induction n with
 |zero=>exact⟨fun h=>(by omega),fun h1 h=>(by omega),fun h1 h=>(by omega),fun h=>(by omega),fun h=>(by omega),fun h=>(by omega),fun h=>(by omega),fun h=>(by omega),fun h=>(by omega),fun h=>(by omega)⟩
 |succ n ih=>
  have L:=lenE z n
  have LP:=lenP z n
  have FP:=fuP z n
  have FT:=fuT z n
  constructor
  ·intro l h
   rw[pExp,pExp]
   refine a1O (fun hw=>?_) fun _=>a1O (fun hw=>?_) fun _=>ih.bin (by omega) (by omega)
   ·have:=a1T hw
    exact a1x (FP.pat (by omega)) LP.pat fun a r hr=>a1x rfl Sh.need fun a r hr=>a1x (ih.exp (by omega)) L.exp fun _ _ _=>rfl
   ·have:=a1T hw
    exact a1x (ih.exp (by omega)) L.exp fun a r hr=>a1x rfl Sh.need fun a r hr=>a1x (ih.exp (by omega)) L.exp fun a r hr=>a1x rfl Sh.need fun a r hr=>a1x (ih.exp (by omega)) L.exp fun _ _ _=>rfl
  ·intro lv l hlv h
   rw[pBin,pBin]
   refine a1O (fun hw=>?_) fun hw=>?_
   ·have:lv=3:=by simpa using hw
    exact ih.app (by omega)
   ·have:lv≠3:=by simpa using hw
    exact a1x (ih.bin (by omega) (by omega)) L.bin fun a r hr=>ih.ops (by omega) (by omega)
  ·intro lv x l hlv h
   rw[pOps,pOps]
   refine a1O (fun _=>rfl) fun hw=>?_
   have:=s1q hw
   exact a1x (ih.bin (by omega) (by omega)) L.bin fun a r hr=>a1O (fun _=>rfl) fun _=>ih.ops hlv (by omega)
  ·intro l h
   rw[pApp,pApp]
   exact a1x (ih.atom (by omega)) L.atom fun a r hr=>ih.apps (by omega)
  ·intro x l h
   rw[f1H,f1H]
   refine a1O (fun hw=>?_) fun _=>rfl
   have:=x1Q hw
   exact a1x (ih.atom (by omega)) L.atom fun a r hr=>ih.apps (by omega)
  ·intro l h
   rw[e1F,e1F]
   refine a1O (fun _=>rfl) fun _=>a1O (fun hw=>?_) fun _=>a1O (fun hw=>?_) fun _=>a1O (fun _=>rfl) fun _=>a1O (fun _=>rfl) fun _=>a1O (fun _=>rfl) fun _=>?_
   ·have:=a1T hw
    exact a1x (ih.decs (by omega)) L.decs fun a r hr=>a1x rfl Sh.need fun a r hr=>a1x (ih.exp (by omega)) L.exp fun _ _ _=>rfl
   ·have:=a1T hw
    refine a1x (ih.exp (by omega)) L.exp fun a r hr=>a1x rfl Sh.need fun a r hr=>a1x (ih.cases ?_) L.cases fun _ _ _=>rfl
    have:=f1z r
    split<;>omega
   ·refine a1x rfl Sh.need fun a r hr=>a1O (fun _=>rfl) fun _=>a1x (ih.exp (by omega)) L.exp fun a r hr=>?_
    have:=f1z r
    exact a1O (fun hw=>a1x (ih.exp (by omega)) L.exp fun _ _ _=>rfl) fun _=>a1O (fun hw=>a1x (FT.ty (by omega)) Sh.ty fun _ _ _=>rfl) fun _=>rfl
  ·intro bs l h
   rw[d1B,d1B]
   refine a1x (FP.pat (by omega)) LP.pat fun a r hr=>a1x rfl Sh.need fun a r hr=>a1x (ih.exp (by omega)) L.exp fun a r hr=>?_
   have:=f1z r
   exact a1O (fun hw=>ih.cases (by omega)) fun _=>rfl
  ·intro ds l h
   rw[g1F,g1F]
   exact a1O (fun hw=>a1x (ih.dec (by omega)) L.dec fun a r hr=>ih.decs (by omega)) fun _=>rfl
  ·intro l h
   rw[pDec,pDec]
   refine a1O (fun hw=>?_) fun _=>?_
   ·have:=a1T hw
    exact a1x rfl Sh.taken fun a r hr=>a1x (ih.body (by omega)) L.body fun _ _ _=>rfl
   ·refine a1x rfl Sh.need fun a r hr=>a1x rfl Sh.taken fun a r hr=>a1x rfl Sh.taken fun a r hr=>?_
    have:=r1z r [a]
    rw[←x1P z] at this
    exact a1x (ih.body (by omega)) L.body fun _ _ _=>rfl
  ·intro l h
   rw[g1b,g1b]
   refine a1O (fun hw=>?_) fun _=>?_
   ·have:=a1T hw
    exact a1x (FT.ty (by omega)) Sh.ty fun a r hr=>a1x rfl Sh.need fun a r hr=>a1x (ih.exp (by omega)) L.exp fun _ _ _=>rfl
   ·exact a1x rfl Sh.need fun a r hr=>a1x (ih.exp (by omega)) L.exp fun _ _ _=>rfl
end Go.Pa
end

section
/- PARSE, plain: with tokens behind that can't go on (a closing parenthesis, a comma) a rule comes to the same, and leaves them -/
set_option linter.unusedVariables false
set_option linter.unusedSimpArgs false
namespace Go.Pa
open Go.Lx (T Tok)
structure Stop (s:List Tok):Prop where
 arrow:isW x1L s=false
 star:isW m1P s=false
 dot:isW wDot s=false
 ops:∀lv,opAt lv s=0
 begE:begE s=false
 begP:begP s=false
 val:(isW wVal s||isW wFun s)=false
 low:ofK 1 s=false
def Ext {α:Type} (s:List Tok) (x y:Res α):Prop:=∀a r,x=.ok a r→y=.ok a (r++s)
section
variable {s:List Tok}
theorem Ext.ok {α:Type} {a:α} {r:List Tok}:Ext s (.ok a r) (.ok a (r++s)):=fun _ _ e=>by injection e with e1 e2;subst e1 e2;rfl
theorem Ext.no {α:Type} {e p:Nat} {y:Res α}:Ext s (.no e p) y:=fun _ _ e=>by cases e
theorem Ext.bind {α β:Type} {x y:Res α} {f g:α→List Tok→Res β} (h:Ext s x y) (hf:∀a r,Ext s (f a r) (g a (r++s))):Ext s (x.bind f) (y.bind g):=fun b r e=>by
 obtain⟨a,r1,h1,h2⟩:=f1c.1 e
 rw[h a r1 h1]
 exact hf a r1 b r h2
theorem Ext.ite {α:Type} {c d:Bool} {x y x' y':Res α} (h:d=c) (h1:c=true→Ext s x x') (h2:c=false→Ext s y y'):Ext s (if c=true then x else y) (if d=true then x' else y'):=by
 subst h
 cases d with
 |true=>exact h1 rfl
 |false=>exact h2 rfl
theorem c1I {w:T} {l:List Tok} (h:l≠[]∨isW w s=false):isW w (l++s)=isW w l:=by
 cases l with
 |nil=>rcases h with h|h;exact absurd rfl h;simpa [isW] using h
 |cons t l=>rfl
theorem k1e {k:Nat} {l:List Tok} (h:l≠[]∨ofK k s=false):ofK k (l++s)=ofK k l:=by
 cases l with
 |nil=>rcases h with h|h;exact absurd rfl h;simpa [ofK] using h
 |cons t l=>rfl
theorem d1v {l:List Tok} (h:l≠[]):(l++s).tail=l.tail++s:=by
 cases l with
 |nil=>exact absurd rfl h
 |cons t l=>rfl
theorem p1D {w:T} {l:List Tok} (h:isW w l=true):l≠[]:=by rintro rfl;cases h
theorem u1F {z:Nat} {l:List Tok} (h:l≠[]):pl z (l++s)=pl z l:=by
 cases l with
 |nil=>exact absurd rfl h
 |cons t l=>rfl
theorem Ext.need {z:Nat} {w:T} {l:List Tok}:Ext s (need z w l) (need z w (l++s)):=fun a r e=>by
 unfold Pa.need at e⊢
 split at e
 ·rename_i hw
  injection e with e1 e2;subst e2
  have hn:=p1D hw
  rw[if_pos (by rw[c1I (.inl hn)];exact hw),d1v hn]
 ·cases e
theorem Ext.taken {z k:Nat} {l:List Tok}:Ext s (taken z k l) (taken z k (l++s)):=fun a r e=>by
 cases l with
 |nil=>cases e
 |cons t l=>
  simp only[Pa.taken,List.cons_append] at e⊢
  split at e
  ·rename_i hw
   injection e with e1 e2;subst e1 e2
   rw[if_pos hw]
  ·cases e
theorem Ext.path (hs:Stop s) {z:Nat} {a b:Bool} {st:Nat}:∀(k:Nat) {p:List T} {l:List Tok},l.length≤k→Ext s (path z a b st p l) (path z a b st p (l++s)):=by
 intro k
 induction k with
 |zero=>intro p l hk x r e;cases l with
  |nil=>unfold Pa.path at e;cases e
  |cons t l=>simp at hk
 |succ k ih=>
  intro p l hk x r e
  cases l with
  |nil=>unfold Pa.path at e;cases e
  |cons t l=>
   unfold Pa.path at e
   rw[List.cons_append]
   unfold Pa.path
   split at e
   ·rename_i h1
    rw[if_pos h1]
    split at e
    ·cases e
    ·rename_i h2
     rw[if_neg h2]
     split at e
     ·rename_i h3
      rw[if_pos h3]
      injection e with e1 e2;subst e1 e2;rfl
     ·rename_i h3
      rw[if_neg h3]
      split at e
      ·split at e
       ·rename_i hb
        injection e with e1 e2;subst e1 e2
        have hd:=hs.dot
        cases s with
        |nil=>simp [hb]
        |cons d l'=>
         simp only[List.nil_append]
         rw[if_neg (by rw[show isW wDot [d]=isW wDot (d::l') from rfl,hd];decide),if_pos hb]
       ·cases e
      ·rename_i d l'
       simp only[List.cons_append]
       split at e
       ·rename_i hd
        rw[if_pos hd]
        exact ih (by simp at hk;omega) x r e
       ·rename_i hd
        rw[if_neg hd]
        split at e
        ·rename_i hb
         rw[if_pos hb]
         injection e with e1 e2;subst e1 e2;rfl
        ·cases e
   ·cases e
theorem z1n (hs:ofK 1 s=false) {z:Nat}:∀(l:List Tok) (ps:List T),params z ps (l++s)=((params z ps l).1,(params z ps l).2++s):=by
 intro l
 induction l with
 |nil=>
  intro ps
  cases s with
  |nil=>simp [params]
  |cons t s=>
   simp only[List.nil_append,params]
   rw[if_neg (by simpa [ofK] using hs)]
 |cons t l ih=>
  intro ps
  simp only[List.cons_append,params]
  split
  ·exact ih _
  ·rfl
structure ExT (s:List Tok) (z n:Nat):Prop where
 ty:∀{l},Ext s (pTy z n l) (pTy z n (l++s))
 pair:∀{l},Ext s (g1a z n l) (g1a z n (l++s))
 pairs:∀{t l},Ext s (d1A z n t l) (d1A z n t (l++s))
 aty:∀{l},Ext s (pAty z n l) (pAty z n (l++s))
theorem exT (hs:Stop s) (z:Nat):∀n,ExT s z n:=by
 intro n
 induction n with
 |zero=>exact⟨fun {l}=>(by rw[pTy];exact Ext.no),fun {l}=>(by rw[g1a];exact Ext.no),fun {t l}=>(by rw[d1A];exact Ext.no),fun {l}=>(by rw[pAty];exact Ext.no)⟩
 |succ n ih=>
  constructor
  ·intro l
   rw[pTy,pTy]
   refine Ext.bind ih.pair fun a r=>Ext.ite (c1I (.inr hs.arrow)) (fun hw=>?_) (fun _=>Ext.ok)
   rw[d1v (p1D hw)]
   exact Ext.bind ih.ty fun a r=>Ext.ok
  ·intro l
   rw[g1a,g1a]
   exact Ext.bind ih.aty fun a r=>ih.pairs
  ·intro t l
   rw[d1A,d1A]
   refine Ext.ite (c1I (.inr hs.star)) (fun hw=>?_) (fun _=>Ext.ok)
   rw[d1v (p1D hw)]
   exact Ext.bind ih.aty fun a r=>ih.pairs
  ·intro l
   by_cases hl:l=[]
   ·subst hl
    intro a r e
    have:=(lenT z (n+1)).aty e
    simp at this
   ·rw[pAty,pAty]
    rw[d1v hl,u1F hl]
    have ht:txt (l++s)=txt l:=by cases l with
     |nil=>exact absurd rfl hl
     |cons t l=>rfl
    rw[ht]
    refine Ext.ite (c1I (.inl hl)) (fun _=>Ext.ok) fun _=>Ext.ite (c1I (.inl hl)) (fun _=>Ext.ok) fun _=>Ext.ite (c1I (.inl hl)) (fun _=>Ext.ok) fun _=>Ext.ite (k1e (.inl hl)) (fun _=>Ext.ok) fun _=>Ext.ite (c1I (.inl hl)) (fun _=>?_) fun _=>?_
    ·exact Ext.bind ih.ty fun a r=>Ext.bind Ext.need fun a r=>Ext.ok
    ·exact Ext.bind (Ext.path hs _ (Nat.le_refl _)) fun a r=>Ext.ok
structure ExP (s:List Tok) (z n:Nat):Prop where
 pat:∀{l},Ext s (pPat z n l) (pPat z n (l++s))
 ap:∀{l},Ext s (pAp z n l) (pAp z n (l++s))
theorem e2Q {l:List Tok} (h:l≠[]∨begP s=false):begP (l++s)=begP l:=by
 cases l with
 |nil=>rcases h with h|h;exact absurd rfl h;rw[List.nil_append,h];rfl
 |cons t l=>rfl
theorem e2R {l:List Tok} (h:l≠[]∨begE s=false):begE (l++s)=begE l:=by
 cases l with
 |nil=>rcases h with h|h;exact absurd rfl h;rw[List.nil_append,h];rfl
 |cons t l=>rfl
theorem h2j {l:List Tok} (h:l≠[]):txt (l++s)=txt l:=by
 cases l with
 |nil=>exact absurd rfl h
 |cons t l=>rfl
theorem c2d {l:List Tok} (h:l≠[]):num (l++s)=num l:=by
 cases l with
 |nil=>exact absurd rfl h
 |cons t l=>rfl
theorem Ext.nonempty {α:Type} {r:List Tok} {x y:Res α} (h0:r=[]→∀a r',x≠ .ok a r') (h:r≠[]→Ext s x y):Ext s x y:=fun a r' e=>by
 by_cases hr:r=[]
 ·exact absurd e (h0 hr a r')
 ·exact h hr a r' e
theorem s1r {β:Type} {z:Nat} {w:T} {f:Unit→List Tok→Res β}:∀a r',(need z w []).bind f≠ .ok a r':=fun a r' e=>by
 obtain⟨_,_,h,_⟩:=f1c.1 e
 cases h
theorem exP (hs:Stop s) (z:Nat):∀n,ExP s z n:=by
 intro n
 induction n with
 |zero=>exact⟨fun {l}=>(by rw[pPat];exact Ext.no),fun {l}=>(by rw[pAp];exact Ext.no)⟩
 |succ n ih=>
  constructor
  ·intro l
   by_cases hl:l=[]
   ·subst hl
    intro a r e
    have:=(lenP z (n+1)).pat a r e
    simp at this
   ·rw[pPat,pPat,u1F hl]
    refine Ext.ite (k1e (.inl hl)) (fun _=>?_) (fun _=>ih.ap)
    exact Ext.bind (Ext.path hs _ (Nat.le_refl _)) fun a r=>Ext.ite (e2Q (.inr hs.begP)) (fun _=>Ext.bind ih.ap fun a r=>Ext.ok) (fun _=>Ext.ok)
  ·intro l
   by_cases hl:l=[]
   ·subst hl
    intro a r e
    have:=(lenP z (n+1)).ap a r e
    simp at this
   ·rw[pAp,pAp,d1v hl,u1F hl,h2j hl,c2d hl]
    refine Ext.ite (c1I (.inl hl)) (fun _=>Ext.ok) fun _=>Ext.ite (c1I (.inl hl)) (fun _=>Ext.ok) fun _=>Ext.ite (c1I (.inl hl)) (fun _=>Ext.ok) fun _=>Ext.ite (k1e (.inl hl)) (fun _=>Ext.ok) fun _=>Ext.ite (k1e (.inl hl)) (fun _=>Ext.ok) fun _=>Ext.ite (k1e (.inl hl)) (fun _=>?_) fun _=>?_
    ·exact Ext.bind (Ext.path hs _ (Nat.le_refl _)) fun a r=>Ext.ok
    ·refine Ext.bind Ext.need fun a l=>Ext.nonempty (r:=l) ?_ fun hl=>?_
     ·rintro rfl a r e
      rw[if_neg (by decide)] at e
      obtain⟨_,_,e,_⟩:=f1c.1 e
      have:=(lenP z n).pat _ _ e
      simp at this
     ·rw[d1v hl]
      refine Ext.ite (c1I (.inl hl)) (fun _=>Ext.ok) fun _=>Ext.bind ih.pat fun p r=>Ext.nonempty (r:=r) ?_ fun hr=>?_
      ·rintro rfl
       rw[if_neg (by decide)]
       exact s1r
      ·rw[d1v hr]
       exact Ext.ite (c1I (.inl hr)) (fun _=>Ext.bind ih.pat fun q r=>Ext.bind Ext.need fun _ r=>Ext.ok) (fun _=>Ext.bind Ext.need fun _ r=>Ext.ok)
structure ExE (s:List Tok) (z n:Nat):Prop where
 exp:∀{l},Ext s (pExp z n l) (pExp z n (l++s))
 bin:∀{lv l},Ext s (pBin z n lv l) (pBin z n lv (l++s))
 ops:∀{lv x l},Ext s (pOps z n lv x l) (pOps z n lv x (l++s))
 app:∀{l},Ext s (pApp z n l) (pApp z n (l++s))
 apps:∀{x l},Ext s (f1H z n x l) (f1H z n x (l++s))
 atom:∀{l},Ext s (e1F z n l) (e1F z n (l++s))
 cases:∀{bs l},Ext s (d1B z n bs l) (d1B z n bs (l++s))
 decs:∀{ds l},Ext s (g1F z n ds l) (g1F z n ds (l++s))
 dec:∀{l},Ext s (pDec z n l) (pDec z n (l++s))
 body:∀{l},Ext s (g1b z n l) (g1b z n (l++s))
theorem e2S (hs:Stop s) {lv:Nat} {l:List Tok}:opAt lv (l++s)=opAt lv l:=by
 cases l with
 |nil=>
  rw[List.nil_append,hs.ops lv]
  unfold opAt;split<;>rfl
 |cons t l=>rfl
theorem exE (hs:Stop s) (z:Nat):∀n,ExE s z n:=by
 intro n
 induction n with
 |zero=>exact⟨fun {l}=>(by rw[pExp];exact Ext.no),fun {lv l}=>(by rw[pBin];exact Ext.no),fun {lv x l}=>(by rw[pOps];exact Ext.no),fun {l}=>(by rw[pApp];exact Ext.no),fun {x l}=>(by rw[f1H];exact Ext.no),fun {l}=>(by rw[e1F];exact Ext.no),fun {bs l}=>(by rw[d1B];exact Ext.no),fun {ds l}=>(by rw[g1F];exact Ext.no),fun {l}=>(by rw[pDec];exact Ext.no),fun {l}=>(by rw[g1b];exact Ext.no)⟩
 |succ n ih=>
  have EP:=exP hs z n
  have ET:=exT hs z n
  constructor
  ·intro l
   by_cases hl:l=[]
   ·subst hl
    intro a r e
    have:=(lenE z (n+1)).exp a r e
    simp at this
   ·rw[pExp,pExp,d1v hl]
    refine Ext.ite (c1I (.inl hl)) (fun _=>?_) fun _=>Ext.ite (c1I (.inl hl)) (fun _=>?_) fun _=>ih.bin
    ·exact Ext.bind EP.pat fun _ _=>Ext.bind Ext.need fun _ _=>Ext.bind ih.exp fun _ _=>Ext.ok
    ·exact Ext.bind ih.exp fun _ _=>Ext.bind Ext.need fun _ _=>Ext.bind ih.exp fun _ _=>Ext.bind Ext.need fun _ _=>Ext.bind ih.exp fun _ _=>Ext.ok
  ·intro lv l
   rw[pBin,pBin]
   exact Ext.ite rfl (fun _=>ih.app) fun _=>Ext.bind ih.bin fun _ _=>ih.ops
  ·intro lv x l
   rw[pOps,pOps,e2S hs]
   refine Ext.ite rfl (fun _=>Ext.ok) fun h=>?_
   have hl:l≠[]:=by
    rintro rfl
    have:opAt lv []=0:=by unfold opAt;split<;>rfl
    rw[this] at h;cases h
   rw[d1v hl]
   exact Ext.bind ih.bin fun _ _=>Ext.ite rfl (fun _=>Ext.ok) fun _=>ih.ops
  ·intro l
   rw[pApp,pApp]
   exact Ext.bind ih.atom fun _ _=>ih.apps
  ·intro x l
   rw[f1H,f1H]
   exact Ext.ite (e2R (.inr hs.begE)) (fun _=>Ext.bind ih.atom fun _ _=>ih.apps) fun _=>Ext.ok
  ·intro l
   by_cases hl:l=[]
   ·subst hl
    intro a r e
    have:=(lenE z (n+1)).atom a r e
    simp at this
   ·rw[e1F,e1F,d1v hl,u1F hl,c2d hl]
    refine Ext.ite (k1e (.inl hl)) (fun _=>Ext.ok) fun _=>Ext.ite (c1I (.inl hl)) (fun _=>?_) fun _=>Ext.ite (c1I (.inl hl)) (fun _=>?_) fun _=>Ext.ite (c1I (.inl hl)) (fun _=>Ext.ok) fun _=>Ext.ite (c1I (.inl hl)) (fun _=>Ext.ok) fun _=>Ext.ite (by rw[k1e (.inl hl),k1e (.inl hl)]) (fun _=>?_) fun _=>?_
    ·exact Ext.bind ih.decs fun _ _=>Ext.bind Ext.need fun _ _=>Ext.bind ih.exp fun _ _=>Ext.bind Ext.need fun _ _=>Ext.ok
    ·refine Ext.bind ih.exp fun _ _=>Ext.bind Ext.need fun _ r=>Ext.nonempty (r:=r) ?_ fun hr=>?_
     ·rintro rfl a r e
      rw[if_neg (by decide)] at e
      obtain⟨_,_,e,_⟩:=f1c.1 e
      have:=(lenE z n).cases _ _ e
      simp at this
     ·rw[c1I (.inl hr),d1v hr]
      have:(if isW wBar r=true then r.tail++s else r++s)=(if isW wBar r=true then r.tail else r)++s:=by split<;>rfl
      rw[this]
      exact Ext.bind ih.cases fun _ _=>Ext.ok
    ·exact Ext.bind (Ext.path hs _ (Nat.le_refl _)) fun _ _=>Ext.ok
    ·refine Ext.bind Ext.need fun a l=>Ext.nonempty (r:=l) ?_ fun hl=>?_
     ·rintro rfl a r e
      rw[if_neg (by decide)] at e
      obtain⟨_,_,e,_⟩:=f1c.1 e
      have:=(lenE z n).exp _ _ e
      simp at this
     ·rw[d1v hl]
      refine Ext.ite (c1I (.inl hl)) (fun _=>Ext.ok) fun _=>Ext.bind ih.exp fun p r=>Ext.nonempty (r:=r) ?_ fun hr=>?_
      ·rintro rfl
       rw[if_neg (by decide),if_neg (by decide)]
       exact s1r
      ·rw[d1v hr]
       exact Ext.ite (c1I (.inl hr)) (fun _=>Ext.bind ih.exp fun _ _=>Ext.bind Ext.need fun _ _=>Ext.ok) fun _=>Ext.ite (c1I (.inl hr)) (fun _=>Ext.bind ET.ty fun _ _=>Ext.bind Ext.need fun _ _=>Ext.ok) (fun _=>Ext.bind Ext.need fun _ _=>Ext.ok)
  ·intro bs l
   rw[d1B,d1B]
   refine Ext.bind EP.pat fun _ _=>Ext.bind Ext.need fun _ _=>Ext.bind ih.exp fun _ r=>Ext.nonempty (r:=r) ?_ fun hr=>?_
   ·rintro rfl
    rw[if_neg (by decide)]
    exact s1r
   ·rw[d1v hr]
    exact Ext.ite (c1I (.inl hr)) (fun _=>ih.cases) (fun _=>Ext.bind Ext.need fun _ _=>Ext.ok)
  ·intro ds l
   rw[g1F,g1F]
   refine Ext.ite ?_ (fun _=>Ext.bind ih.dec fun _ _=>ih.decs) (fun _=>Ext.ok)
   cases l with
   |nil=>rw[List.nil_append,hs.val];rfl
   |cons t l=>rfl
  ·intro l
   by_cases hl:l=[]
   ·subst hl
    intro a r e
    have:=(lenE z (n+1)).dec a r e
    simp at this
   ·rw[pDec,pDec,d1v hl,u1F hl]
    refine Ext.ite (c1I (.inl hl)) (fun _=>?_) fun _=>?_
    ·exact Ext.bind Ext.taken fun _ _=>Ext.bind ih.body fun _ _=>Ext.ok
    ·refine Ext.bind Ext.need fun _ _=>Ext.bind Ext.taken fun _ _=>Ext.bind Ext.taken fun p r=>?_
     rw[z1n hs.low]
     exact Ext.bind ih.body fun _ _=>Ext.ok
  ·intro l
   by_cases hl:l=[]
   ·subst hl
    intro a r e
    have:=(lenE z (n+1)).body a r e
    simp at this
   ·rw[g1b,g1b,d1v hl]
    refine Ext.ite (c1I (.inl hl)) (fun _=>?_) fun _=>?_
    ·exact Ext.bind ET.ty fun _ _=>Ext.bind Ext.need fun _ _=>Ext.bind ih.exp fun _ _=>Ext.ok
    ·exact Ext.bind Ext.need fun _ _=>Ext.bind ih.exp fun _ _=>Ext.ok
end
end Go.Pa
end

section
/- PARSE, plain: places make no difference to what tokens are -/
set_option linter.unusedVariables false
set_option linter.unusedSimpArgs false
namespace Go.Pa
open Go.Lx (T Tok)
def bare (t:Tok):Tok:={t with at_:=0}
abbrev c1y (l:List Tok):List Tok:=l.map bare
mutual
def bE:Exp→Exp
 | .fn p x=>.fn p (bE x)
 | .app f x=>.app (bE f) (bE x)
 | .pair a b=>.pair (bE a) (bE b)
 | .lets l x=>.lets (bDs l) (bE x)
 | .ite c a b=>.ite (bE c) (bE a) (bE b)
 | .cases x l=>.cases (bE x) (bCs l)
 | .bin o a b=>.bin o (bE a) (bE b)
 | .ann x t=>.ann (bE x) t
 | .int n=>.int n
 | .tru=>.tru
 | .fls=>.fls
 | .unit=>.unit
 | .var p=>.var p
 | .con p=>.con p
def bD:Dec→Dec
 | .val _ n t x=>.val 0 n t (bE x)
 | .func _ n ps t x=>.func 0 n ps t (bE x)
def bDs:List Dec→List Dec
 |[]=>[]
 |d::l=>bD d::bDs l
def bCs:List (Pat×Exp)→List (Pat×Exp)
 |[]=>[]
 |(p,x)::l=>(p,bE x)::bCs l
end
theorem h2k (a b:List Dec):bDs (a++b)=bDs a++bDs b:=by
 induction a with
 |nil=>rfl
 |cons d a ih=>simp [bDs,ih]
theorem h2l (a b:List (Pat×Exp)):bCs (a++b)=bCs a++bCs b:=by
 induction a with
 |nil=>rfl
 |cons d a ih=>obtain⟨p,x⟩:=d;simp [bCs,ih]
def Res.mp {α β:Type} (φ:α→β):Res α→Res β
 | .ok a r=>.ok (φ a) (c1y r)
 | .no e _=>.no e 0
theorem a1X {α α' β β':Type} {φ:α→α'} {ψ:β→β'} {x:Res α} {y:Res α'} {f:α→List Tok→Res β} {g:α'→List Tok→Res β'} (h:y=x.mp φ) (hf:∀a r,g (φ a) (c1y r)=(f a r).mp ψ):y.bind g=(x.bind f).mp ψ:=by
 subst h
 cases x with
 |ok a r=>exact hf a r
 |no e p=>rfl
theorem c1i {α β:Type} {φ:α→β} {c d:Bool} {x y:Res α} {x' y':Res β} (h:d=c) (h1:x'=x.mp φ) (h2:y'=y.mp φ):(if d=true then x' else y')=(if c=true then x else y).mp φ:=by
 subst h;subst h1;subst h2
 cases d<;>rfl
theorem h2m {α β:Type} {φ:α→β} {c:Prop} [Decidable c] {x y:Res α} {x' y':Res β} (h1:x'=x.mp φ) (h2:y'=y.mp φ):(if c then x' else y')=(if c then x else y).mp φ:=by
 subst h1;subst h2
 split<;>rfl
theorem g1c {w:T} {l:List Tok}:isW w (c1y l)=isW w l:=by cases l<;>rfl
theorem u1G {k:Nat} {l:List Tok}:ofK k (c1y l)=ofK k l:=by cases l<;>rfl
theorem g1J {l:List Tok}:(c1y l).tail=c1y l.tail:=by cases l<;>rfl
theorem i2O {l:List Tok}:txt (c1y l)=txt l:=by cases l<;>rfl
theorem i2P {l:List Tok}:num (c1y l)=num l:=by cases l<;>rfl
theorem pl_b {l:List Tok}:pl 0 (c1y l)=0:=by cases l<;>rfl
theorem i2Q {l:List Tok}:begP (c1y l)=begP l:=by cases l<;>rfl
theorem i2R {l:List Tok}:begE (c1y l)=begE l:=by cases l<;>rfl
theorem i2S {lv:Nat} {l:List Tok}:opAt lv (c1y l)=opAt lv l:=by cases l<;>rfl
theorem f1A {z:Nat} {w:T} {l:List Tok}:need 0 w (c1y l)=(need z w l).mp id:=by
 unfold need
 rw[g1c,pl_b,g1J]
 split<;>rfl
theorem w1n {z k:Nat} {l:List Tok}:taken 0 k (c1y l)=(taken z k l).mp id:=by
 cases l with
 |nil=>rfl
 |cons t l=>
  simp only[c1y,List.map_cons,taken,bare]
  split<;>rfl
theorem x1R {z:Nat} {a b:Bool} {st:Nat}:∀(k:Nat) {p:List T} {l:List Tok},l.length≤k→path 0 a b 0 p (c1y l)=(path z a b st p l).mp id:=by
 intro k
 induction k with
 |zero=>intro p l hk;cases l with
  |nil=>simp only[c1y,List.map_nil];unfold path;rfl
  |cons t l=>simp at hk
 |succ k ih=>
  intro p l hk
  cases l with
  |nil=>simp only[c1y,List.map_nil];unfold path;rfl
  |cons t l=>
   simp only[c1y,List.map_cons]
   unfold path
   simp only[bare]
   refine c1i rfl (h2m rfl (c1i rfl rfl ?_)) rfl
   cases l with
   |nil=>exact c1i rfl rfl rfl
   |cons d l'=>
    simp only[List.map_cons]
    exact c1i rfl (ih (by simp at hk;omega)) (c1i rfl rfl rfl)
theorem e2T {z:Nat}:∀(l:List Tok) (ps:List T),params 0 ps (c1y l)=((params z ps l).1,c1y (params z ps l).2):=by
 intro l
 induction l with
 |nil=>intro ps;simp [params,c1y]
 |cons t l ih=>
  intro ps
  simp only[c1y,List.map_cons,params,bare]
  split
  ·exact ih _
  ·rfl
structure BaT (z n:Nat):Prop where
 ty:∀{l},pTy 0 n (c1y l)=(pTy z n l).mp id
 pair:∀{l},g1a 0 n (c1y l)=(g1a z n l).mp id
 pairs:∀{t l},d1A 0 n t (c1y l)=(d1A z n t l).mp id
 aty:∀{l},pAty 0 n (c1y l)=(pAty z n l).mp id
theorem baT (z:Nat):∀n,BaT z n:=by
 intro n
 induction n with
 |zero=>exact⟨fun {l}=>(by rw[pTy,pTy];rfl),fun {l}=>(by rw[g1a,g1a];rfl),fun {t l}=>(by rw[d1A,d1A];rfl),fun {l}=>(by rw[pAty,pAty];rfl)⟩
 |succ n ih=>
  constructor
  ·intro l
   rw[pTy,pTy]
   refine a1X ih.pair fun a r=>c1i g1c ?_ rfl
   rw[g1J]
   exact a1X ih.ty fun a r=>rfl
  ·intro l
   rw[g1a,g1a]
   exact a1X ih.aty fun a r=>ih.pairs
  ·intro t l
   rw[d1A,d1A,g1J]
   exact c1i g1c (a1X ih.aty fun a r=>ih.pairs) rfl
  ·intro l
   rw[pAty,pAty,g1J,pl_b,i2O]
   refine c1i g1c rfl (c1i g1c rfl (c1i g1c rfl (c1i u1G rfl (c1i g1c ?_ ?_))))
   ·exact a1X ih.ty fun a r=>a1X f1A fun a r=>rfl
   ·exact a1X (x1R _ (Nat.le_refl _)) fun a r=>rfl
structure BaP (z n:Nat):Prop where
 pat:∀{l},pPat 0 n (c1y l)=(pPat z n l).mp id
 ap:∀{l},pAp 0 n (c1y l)=(pAp z n l).mp id
theorem baP (z:Nat):∀n,BaP z n:=by
 intro n
 induction n with
 |zero=>exact⟨fun {l}=>(by rw[pPat,pPat];rfl),fun {l}=>(by rw[pAp,pAp];rfl)⟩
 |succ n ih=>
  constructor
  ·intro l
   rw[pPat,pPat,pl_b]
   refine c1i u1G ?_ ih.ap
   exact a1X (x1R _ (Nat.le_refl _)) fun a r=>c1i i2Q (a1X ih.ap fun a r=>rfl) rfl
  ·intro l
   rw[pAp,pAp,g1J,pl_b,i2O,i2P]
   refine c1i g1c rfl (c1i g1c rfl (c1i g1c rfl (c1i u1G rfl (c1i u1G rfl (c1i u1G ?_ ?_)))))
   ·exact a1X (x1R _ (Nat.le_refl _)) fun a r=>rfl
   ·refine a1X f1A fun a l=>?_
    rw[g1J]
    refine c1i g1c rfl (a1X ih.pat fun p r=>?_)
    rw[g1J]
    exact c1i g1c (a1X ih.pat fun q r=>a1X f1A fun _ r=>rfl) (a1X f1A fun _ r=>rfl)
structure BaE (z n:Nat):Prop where
 exp:∀{l},pExp 0 n (c1y l)=(pExp z n l).mp bE
 bin:∀{lv l},pBin 0 n lv (c1y l)=(pBin z n lv l).mp bE
 ops:∀{lv x l},pOps 0 n lv (bE x) (c1y l)=(pOps z n lv x l).mp bE
 app:∀{l},pApp 0 n (c1y l)=(pApp z n l).mp bE
 apps:∀{x l},f1H 0 n (bE x) (c1y l)=(f1H z n x l).mp bE
 atom:∀{l},e1F 0 n (c1y l)=(e1F z n l).mp bE
 cases:∀{bs l},d1B 0 n (bCs bs) (c1y l)=(d1B z n bs l).mp bCs
 decs:∀{ds l},g1F 0 n (bDs ds) (c1y l)=(g1F z n ds l).mp bDs
 dec:∀{l},pDec 0 n (c1y l)=(pDec z n l).mp bD
 body:∀{l},g1b 0 n (c1y l)=(g1b z n l).mp (fun b=>(b.1,bE b.2))
theorem baE (z:Nat):∀n,BaE z n:=by
 intro n
 induction n with
 |zero=>exact⟨fun {l}=>(by rw[pExp,pExp];rfl),fun {lv l}=>(by rw[pBin,pBin];rfl),fun {lv x l}=>(by rw[pOps,pOps];rfl),fun {l}=>(by rw[pApp,pApp];rfl),fun {x l}=>(by rw[f1H,f1H];rfl),fun {l}=>(by rw[e1F,e1F];rfl),fun {bs l}=>(by rw[d1B,d1B];rfl),fun {ds l}=>(by rw[g1F,g1F];rfl),fun {l}=>(by rw[pDec,pDec];rfl),fun {l}=>(by rw[g1b,g1b];rfl)⟩
 |succ n ih=>
  have BP:=baP z n
  have BT:=baT z n
  constructor
  ·intro l
   rw[pExp,pExp,g1J]
   refine c1i g1c ?_ (c1i g1c ?_ ih.bin)
   ·exact a1X BP.pat fun _ _=>a1X f1A fun _ _=>a1X ih.exp fun _ _=>by simp only[Res.mp,bE,id]
   ·exact a1X ih.exp fun _ _=>a1X f1A fun _ _=>a1X ih.exp fun _ _=>a1X f1A fun _ _=>a1X ih.exp fun _ _=>by simp only[Res.mp,bE,id]
  ·intro lv l
   rw[pBin,pBin]
   exact c1i rfl ih.app (a1X ih.bin fun _ _=>ih.ops)
  ·intro lv x l
   rw[pOps,pOps,i2S,g1J]
   refine c1i rfl rfl (a1X ih.bin fun y r=>c1i rfl (by simp only[Res.mp,bE]) ?_)
   have:=ih.ops (lv:=lv) (x:=.bin (opAt lv l) x y) (l:=r)
   simpa only[bE] using this
  ·intro l
   rw[pApp,pApp]
   exact a1X ih.atom fun _ _=>ih.apps
  ·intro x l
   rw[f1H,f1H]
   refine c1i i2R (a1X ih.atom fun y r=>?_) rfl
   have:=ih.apps (x:=.app x y) (l:=r)
   simpa only[bE] using this
  ·intro l
   rw[e1F,e1F,g1J,pl_b,i2P]
   refine c1i u1G (by simp only[Res.mp,bE]) (c1i g1c ?_ (c1i g1c ?_ (c1i g1c (by simp only[Res.mp,bE]) (c1i g1c (by simp only[Res.mp,bE]) (c1i (by rw[u1G,u1G]) ?_ ?_)))))
   ·have:=ih.decs (ds:=[]) (l:=l.tail)
    simp only[bDs] at this
    exact a1X this fun _ _=>a1X f1A fun _ _=>a1X ih.exp fun _ _=>a1X f1A fun _ _=>by simp only[Res.mp,bE,id]
   ·refine a1X ih.exp fun _ _=>a1X f1A fun _ r=>?_
    have:=ih.cases (bs:=[]) (l:=if isW wBar r=true then r.tail else r)
    simp only[bCs] at this
    rw[g1c,g1J]
    have e:(if isW wBar r=true then c1y r.tail else c1y r)=c1y (if isW wBar r=true then r.tail else r):=by split<;>rfl
    rw[e]
    exact a1X this fun _ _=>by simp only[Res.mp,bE,id]
   ·refine a1X (x1R _ (Nat.le_refl _)) fun a r=>?_
    simp only[id]
    cases a.2<;>simp [Res.mp,bE]
   ·refine a1X f1A fun a l=>?_
    rw[g1J]
    refine c1i g1c (by simp only[Res.mp,bE]) (a1X ih.exp fun p r=>?_)
    rw[g1J]
    refine c1i g1c (a1X ih.exp fun _ _=>a1X f1A fun _ _=>by simp only[Res.mp,bE]) (c1i g1c (a1X BT.ty fun _ _=>a1X f1A fun _ _=>by simp only[Res.mp,bE,id]) (a1X f1A fun _ _=>rfl))
  ·intro bs l
   rw[d1B,d1B]
   refine a1X BP.pat fun p _=>a1X f1A fun _ _=>a1X ih.exp fun x r=>?_
   rw[g1J]
   have e:bCs bs++[(id p,bE x)]=bCs (bs++[(p,x)]):=by rw[h2l];rfl
   rw[e]
   exact c1i g1c ih.cases (a1X f1A fun _ _=>rfl)
  ·intro ds l
   rw[g1F,g1F]
   refine c1i (by rw[g1c,g1c]) (a1X ih.dec fun d r=>?_) rfl
   have e:bDs ds++[bD d]=bDs (ds++[d]):=by rw[h2k];rfl
   rw[e]
   exact ih.decs
  ·intro l
   rw[pDec,pDec,g1J,pl_b]
   refine c1i g1c ?_ ?_
   ·exact a1X w1n fun _ _=>a1X ih.body fun _ _=>by simp only[Res.mp,bD,id]
   ·refine a1X f1A fun _ _=>a1X w1n fun _ _=>a1X w1n fun p r=>?_
    simp only[id]
    rw[e2T (z:=z)]
    exact a1X ih.body fun _ _=>by simp only[Res.mp,bD]
  ·intro l
   rw[g1b,g1b,g1J]
   refine c1i g1c ?_ ?_
   ·exact a1X BT.ty fun _ _=>a1X f1A fun _ _=>a1X ih.exp fun _ _=>rfl
   ·exact a1X f1A fun _ _=>a1X ih.exp fun _ _=>rfl
end Go.Pa
end

section
/- PARSE, plain: an expression in parentheses; a pair of two -/
set_option linter.unusedVariables false
set_option linter.unusedSimpArgs false
namespace Go.Pa
open Go.Lx (T Tok)
def mk (w:T) (a:Nat):Tok:=⟨6,w,0,a⟩
theorem z1o (a:Nat) (l:List Tok):Stop (mk wClose a::l) where
 arrow:=rfl
 star:=rfl
 dot:=rfl
 ops:=fun lv=>by unfold opAt;split<;>rfl
 begE:=rfl
 begP:=rfl
 val:=rfl
 low:=rfl
theorem z1p (a:Nat) (l:List Tok):Stop (mk wComma a::l) where
 arrow:=rfl
 star:=rfl
 dot:=rfl
 ops:=fun lv=>by unfold opAt;split<;>rfl
 begE:=rfl
 begP:=rfl
 val:=rfl
 low:=rfl
theorem p1E {w v:T} {l:List Tok} (h:isW w l=true) (hne:w≠v):isW v l=false:=by
 cases l with
 |nil=>cases h
 |cons t l=>
  simp only[isW,Bool.and_eq_true,decide_eq_true_eq] at h
  simp only[isW,Bool.and_eq_false_iff,decide_eq_false_iff_not]
  exact .inr fun e=>hne (h.2.symm.trans e)
theorem s1s {w:T} {l:List Tok} (h:isW w l=true) {k:Nat} (h3:k≠3) (h6:k≠6):ofK k l=false:=by
 cases l with
 |nil=>cases h
 |cons t l=>
  simp only[isW,Bool.and_eq_true,Bool.or_eq_true,beq_iff_eq] at h
  simp only[ofK,beq_eq_false_iff_ne]
  rcases h.1 with e|e<;>omega
def Bad {α:Type} (x:Res α):Prop:=∀a r,x≠ .ok a r
theorem Bad.bind {α β:Type} {x:Res α} {f:α→List Tok→Res β} (h:Bad x):Bad (x.bind f):=fun a r e=>by
 obtain⟨_,_,e,_⟩:=f1c.1 e
 exact h _ _ e
theorem i2T {z:Nat} {w:T} {l:List Tok} (h:isW w l=true) (w1:w≠wFn) (w2:w≠wIf) (w3:w≠wLet) (w4:w≠q1L) (w5:w≠m1a) (w6:w≠h1O) (w7:w≠wOpen):∀n,Bad (e1F z n l)∧Bad (pApp z n l)∧(∀lv,lv≤3→Bad (pBin z n lv l))∧Bad (pExp z n l):=by
 intro n
 induction n with
 |zero=>exact⟨fun a r e=>(by rw[e1F] at e;cases e),fun a r e=>(by rw[pApp] at e;cases e),fun lv _ a r e=>(by rw[pBin] at e;cases e),fun a r e=>(by rw[pExp] at e;cases e)⟩
 |succ n ih=>
  obtain⟨i1,i2,i3,i4⟩:=ih
  refine⟨?_,?_,?_,?_⟩
  ·rw[e1F,s1s h (by decide) (by decide),p1E h w3,p1E h w4,p1E h w5,p1E h w6,s1s h (by decide) (by decide),s1s h (by decide) (by decide)]
   simp only[Bool.false_eq_true,if_false,Bool.or_self]
   refine Bad.bind fun a r e=>?_
   unfold need at e
   rw[p1E h w7] at e
   simp at e
  ·rw[pApp];exact i1.bind
  ·intro lv hlv
   rw[pBin]
   split
   ·exact i2
   ·rename_i hw
    have:lv≠3:=by simpa using hw
    exact(i3 (lv+1) (by omega)).bind
  ·rw[pExp,p1E h w1,p1E h w2]
   simp only[Bool.false_eq_true,if_false]
   exact i3 0 (by omega)
theorem c2e {z:Nat} {l:List Tok} (h:isW wClose l=true) (n:Nat):Bad (e1F z n l)∧Bad (pApp z n l)∧(∀lv,lv≤3→Bad (pBin z n lv l))∧Bad (pExp z n l):=
 i2T h (by decide) (by decide) (by decide) (by decide) (by decide) (by decide) (by decide) n
theorem x1S {z n:Nat} {l:List Tok} (h:8*l.length+7≤n):∀k,pExp z (n+k) l=pExp z n l:=by
 intro k
 induction k with
 |zero=>rfl
 |succ k ih=>rw[←Nat.add_assoc,←(fuE z (n+k)).exp (by omega),ih]
theorem h2n {z n:Nat} {l r:List Tok} {x:Exp} (h0:isW wFn l=false) (h1:isW wIf l=false) (h:e1F z n l=.ok x r) (hs:begE r=false) (ho:∀lv,opAt lv r=0):pExp z (n+6) l=.ok x r:=by
 obtain⟨m,rfl⟩:∃m,n=m+1:=⟨n-1,by
  cases n with
  |zero=>rw[e1F] at h;cases h
  |succ n=>rfl⟩
 have a1:pApp z (m+1+1) l=.ok x r:=by
  rw[pApp,h]
  simp only[Res.bind]
  rw[f1H,hs];rfl
 have a2:pBin z (m+1+1+1) 3 l=.ok x r:=by rw[pBin,a1];rfl
 have a3:pBin z (m+1+1+1+1) 2 l=.ok x r:=by
  rw[pBin,if_neg (by decide),a2]
  simp only[Res.bind]
  rw[pOps,ho];rfl
 have a4:pBin z (m+1+1+1+1+1) 1 l=.ok x r:=by
  rw[pBin,if_neg (by decide),a3]
  simp only[Res.bind]
  rw[pOps,ho];rfl
 have a5:pBin z (m+1+1+1+1+1+1) 0 l=.ok x r:=by
  rw[pBin,if_neg (by decide),a4]
  simp only[Res.bind]
  rw[pOps,ho];rfl
 rw[show m+1+6=(m+1+1+1+1+1+1)+1 from rfl,pExp,h0,h1,a5];rfl
theorem e2U:begE []=false:=rfl
theorem e2V (lv:Nat):opAt lv []=0:=by unfold opAt;split<;>rfl
theorem pairs {z n a b c:Nat} {l m:List Tok} {x y:Exp} (h:pExp z n l=.ok x []) (k:pExp z n m=.ok y []):pExp z (n+7) (mk wOpen a::(l++mk wComma c::(m++[mk wClose b])))=.ok (.pair x y) []:=by
 have hl:l≠[]:=by
  rintro rfl
  have:=(lenE z n).exp _ _ h
  simp at this
 have hc:isW wClose (l++mk wComma c::(m++[mk wClose b]))=false:=by
  rw[c1I (.inl hl)]
  cases hw:isW wClose l with
  |false=>rfl
  |true=>exact absurd h ((c2e hw n).2.2.2 _ _)
 have he:=(exE (z1p c (m++[mk wClose b])) z n).exp _ _ h
 have ke:=(exE (z1o b []) z n).exp _ _ k
 refine h2n (n:=n+1) rfl rfl ?_ e2U e2V
 rw[e1F]
 generalize hL:l++mk wComma c::(m++[mk wClose b])=L at *
 have e1:ofK 4 (mk wOpen a::L)=false:=rfl
 have e2:isW wLet (mk wOpen a::L)=false:=rfl
 have e3:isW q1L (mk wOpen a::L)=false:=rfl
 have e4:isW m1a (mk wOpen a::L)=false:=rfl
 have e5:isW h1O (mk wOpen a::L)=false:=rfl
 have e6:(ofK 1 (mk wOpen a::L)||ofK 2 (mk wOpen a::L))=false:=rfl
 have e7:need z wOpen (mk wOpen a::L)=.ok () L:=rfl
 rw[e1,e2,e3,e4,e5,e6,e7]
 simp only[Bool.false_eq_true,if_false,Res.bind]
 rw[hc,he]
 simp only[Bool.false_eq_true,if_false,List.nil_append]
 have f1:isW wComma (mk wComma c::(m++[mk wClose b]))=true:=rfl
 rw[f1]
 simp only[if_true,List.tail_cons]
 rw[ke]
 rfl
end Go.Pa
end

section
/- PARSE, plain: the tokens of a text in parentheses; of two with a comma -/
set_option linter.unusedVariables false
set_option linter.unusedSimpArgs false
namespace Go.Pa
open Go.Lx
variable {res:T→Bool}
theorem o1j {c:UInt8} {r:T} (h1:(low c||high c)=false) (h2:digit c=false) (h3:(c==39)=false) (h4:i1o c=false) (h5:w1s.contains c=true):one res (c::r)=.ok (6,1,0):=by
 unfold one
 simp only[h1,h2,h3,r1B,h4,h5,Bool.false_and]
 rfl
theorem w1o {s:T} {ts:List Tok} (h:Pieces res s 1 ts) (hne:s.head?≠some 42):Pieces res (40::s) 0 (mk wOpen 0::ts):=by
 refine Pieces.cons (res:=res) (b:=[]) (x:=[40]) (l:=s) (v:=0) (k:=6) (a:=0) Blk.nil (o1j rfl rfl rfl rfl (by decide)) (fun c hc=>?_) ?_ h
 ·simp at hc;subst hc;rfl
 ·simp only[List.cons_append,List.nil_append]
  rw[k1u]
  simp [hne]
theorem u1H (a:Nat):Pieces res [10,41] a [mk wClose (a+1)]:=
 Pieces.cons (res:=res) (b:=[10]) (x:=[41]) (l:=[]) (v:=0) (k:=6) (a:=a) (Blk.cons rfl Blk.nil) (o1j rfl rfl rfl rfl (by decide)) (fun c hc=>by simp at hc;subst hc;rfl) rfl (.nil Blk.nil)
theorem u1I {s:T} {a:Nat} {ts:List Tok} (h:Pieces res s (a+2) ts):Pieces res (10::44::s) a (mk wComma (a+1)::ts):=
 Pieces.cons (res:=res) (b:=[10]) (x:=[44]) (l:=s) (v:=0) (k:=6) (a:=a) (Blk.cons rfl Blk.nil) (o1j rfl rfl rfl rfl (by decide)) (fun c hc=>by simp at hc;subst hc;rfl) (by simp only[List.cons_append,List.nil_append];rw[k1u];rfl) h
theorem u1J {ts us:List Tok} (h:us.map key=ts.map key):c1y us=c1y ts:=by
 induction us generalizing ts with
 |nil=>cases ts with
  |nil=>rfl
  |cons t ts=>cases h
 |cons u us ih=>cases ts with
  |nil=>cases h
  |cons t ts=>
   simp only[List.map_cons,List.cons.injEq] at h
   obtain⟨h1,h2⟩:=h
   simp only[key,Prod.mk.injEq] at h1
   simp only[c1y,List.map_cons] at ih⊢
   rw[ih h2]
   simp only[bare,h1.1,h1.2.1,h1.2.2]
theorem c2f {r:T} {a:Nat} {ts:List Tok} (h:Pieces res (42::r) a ts):isW m1P ts=true:=by
 have hs:∀z:T,skp (42::z)=(0,true):=fun z=>by
  rw[f1B]
  have:opens (42::z)=false:=by rw[k1u];rfl
  rw[this];rfl
 generalize hl:(42::r:T)=l at h
 cases h with
 |nil hb=>
  subst hl
  have:=hb []
  rw[List.append_nil,hs] at this
  simp at this;omega
 | @cons b x l _ k v ts hb h1 h2 h3 h4=>
  cases b with
  |cons c b=>
   simp only[List.cons_append] at hl
   injection hl with e1 e2
   subst e1
   have:=hb []
   rw[List.append_nil,hs] at this
   simp at this;omega
  |nil=>
   have hx:=(e1f h1).1
   cases x with
   |nil=>simp at hx
   |cons c x=>
    simp only[List.nil_append,List.cons_append] at hl
    injection hl with e1 e2
    subst e1
    rw[List.cons_append,o1j rfl rfl rfl rfl (by decide)] at h1
    injection h1 with h1
    simp only[Prod.mk.injEq,List.length_cons] at h1
    obtain⟨rfl,hx,_⟩:=h1
    have:x=[]:=by
     cases x with
     |nil=>rfl
     |cons _ _=>simp at hx
    subst this
    rfl
end Go.Pa
end

section
/- PARSE, plain: the laws ParseParens, ParsePairs, ParseTokens over tokens -/
set_option linter.unusedVariables false
set_option linter.unusedSimpArgs false
namespace Go.Pa
open Go.Lx
variable {res:T→Bool}
theorem c2g {z z' n:Nat} {ts us:List Tok} (h:c1y us=c1y ts):(pExp z' n us).mp bE=(pExp z n ts).mp bE:=by
 rw[←(baE z' n).exp,←(baE z n).exp,h]
theorem u1K {z z' n:Nat} {ts us:List Tok} {x:Exp} (h:c1y us=c1y ts) (hx:pExp z n ts=.ok x []):∃y,pExp z' n us=.ok y []∧bE y=bE x:=by
 have:=c2g (z:=z) (z':=z') (n:=n) h
 rw[hx] at this
 cases hy:pExp z' n us with
 |no e p=>rw[hy] at this;cases this
 |ok y r=>
  rw[hy] at this
  simp only[Res.mp,c1y,List.map_nil,Res.ok.injEq,List.map_eq_nil_iff] at this
  obtain⟨h1,rfl⟩:=this
  exact⟨y,rfl,h1⟩
theorem w1p {z z' z2 n a b c:Nat} {ts us ts' us':List Tok} {x y:Exp} (h:c1y us=c1y ts) (hx:pExp z n ts=.ok x []) (h':c1y us'=c1y ts') (hy:pExp z2 n ts'=.ok y []):
  ∃x' y',pExp z' (n+7) (mk wOpen a::(us++mk wComma c::(us'++[mk wClose b])))=.ok (.pair x' y') []∧bE x'=bE x∧bE y'=bE y:=by
 obtain⟨x',h1,h2⟩:=u1K (z':=z') h hx
 obtain⟨y',h3,h4⟩:=u1K (z':=z') h' hy
 exact⟨x',y',pairs h1 h3,h2,h4⟩
theorem c2h {s:T} {z n:Nat} {a:Nat} {ts:List Tok} {x:Exp} (h:Pieces res s a ts) (hx:pExp z n ts=.ok x []):s.head?≠some 42∧s≠[]:=by
 refine⟨?_,?_⟩
 ·intro e
  cases s with
  |nil=>cases e
  |cons c s=>
   simp at e;subst e
   exact(i2T (c2f h) (by decide) (by decide) (by decide) (by decide) (by decide) (by decide) (by decide) n).2.2.2 _ _ hx
 ·rintro rfl
  have:ts=[]:=by
   generalize hl:([]:T)=l at h
   cases h with
   |nil _=>rfl
   | @cons b x l _ k v ts hb h1 h2 h3 h4=>
    have hx:=(e1f h1).1
    have:=congrArg List.length hl
    simp at this;omega
  subst this
  have:=(lenE z n).exp _ _ hx
  simp at this
theorem u1L {s t:T} {z n z2:Nat} {ts ts':List Tok} {x y:Exp} (h:Pieces res s 0 ts) (hx:pExp z n ts=.ok x []) (h':Pieces res t 0 ts'):
  ∃us us' a b,Pieces res (40::(s++(10::44::(10::(t++[10,41]))))) 0 (mk wOpen 0::(us++mk wComma a::(us'++[mk wClose b])))∧c1y us=c1y ts∧c1y us'=c1y ts':=by
 obtain⟨hne,hl⟩:=c2h h hx
 obtain⟨us,h1,h2⟩:=h.shift 1
 obtain⟨us',h3,h4⟩:=h'.shift (1+s.length+2+1)
 have k1:=h3.append (m:=[10,41]) rfl (u1H (res:=res) (1+s.length+2+1+t.length))
 have k2:Pieces res ([10]++(t++[10,41])) (1+s.length+2) _:=Pieces.blk (b:=[10]) (Blk.cons rfl Blk.nil) (by simpa using k1)
 have k3:=u1I (a:=1+s.length) k2
 have k4:=h1.append (m:=10::44::([10]++(t++[10,41]))) rfl k3
 refine⟨us,us',_,_,w1o (s:=s++(10::44::([10]++(t++[10,41])))) k4 ?_,u1J h2,u1J h4⟩
 cases s with
 |nil=>exact absurd rfl hl
 |cons c s=>simpa using hne
end Go.Pa
end

section
/- PARSE: what the syntax is asq plain data (rows of cells) -/
set_option linter.unusedVariables false
set_option linter.unusedSimpArgs false
namespace Go.Pa
open Go Go.Eng
open Go.Lx (T Tok)
abbrev bs (t:T):ByteArray:=⟨t.toArray⟩
abbrev ci (n:Int):CT:=.int .i64 n
abbrev cs (t:T):CT:=.str (bs t)
def cp (p:List T):CT:=.rows 1 (p.map fun t=>[cs t])
def Ty.row:Ty→Row
 | .var n=>[ci 1,cs n,.rows 1 [],.rows 4 []]
 | .con p=>[ci 2,cs [],cp p,.rows 4 []]
 | .fn a b=>[ci 3,cs [],.rows 1 [],.rows 4 [a.row,b.row]]
 | .pair a b=>[ci 4,cs [],.rows 1 [],.rows 4 [a.row,b.row]]
def patR (k:Int) (n:T) (p:List T) (v:Int) (kids:List Row):Row:=[ci k,cs n,cp p,ci v,.rows 5 kids]
def Pat.row:Pat→Row
 | .any=>patR 1 [] [] 0 []
 | .var n=>patR 2 n [] 0 []
 | .int v=>patR 3 [] [] v []
 | .tru=>patR 4 [] [] 0 []
 | .fls=>patR 5 [] [] 0 []
 | .unit=>patR 6 [] [] 0 []
 | .pair a b=>patR 7 [] [] 0 [a.row,b.row]
 | .con p=>patR 8 [] p 0 []
 | .conA p a=>patR 8 [] p 0 [a.row]
def expR (k op v:Int) (p:List T) (ps ks ds ts:List Row):Row:=[ci k,ci op,ci v,cp p,.rows 5 ps,.rows 8 ks,.rows 9 ds,.rows 4 ts]
def decR (k a:Int) (n:T) (ps:List T) (ts es:List Row):Row:=[ci k,ci a,cs n,cp ps,.rows 4 ts,.rows 8 es,.rows 2 [],.rows 5 [],.rows 5 []]
mutual
def Exp.row:Exp→Row
 | .int v=>expR 1 0 v [] [] [] [] []
 | .tru=>expR 2 0 0 [] [] [] [] []
 | .fls=>expR 3 0 0 [] [] [] [] []
 | .unit=>expR 4 0 0 [] [] [] [] []
 | .var p=>expR 5 0 0 p [] [] [] []
 | .con p=>expR 6 0 0 p [] [] [] []
 | .fn p x=>expR 7 0 0 [] [p.row] [Exp.row x] [] []
 | .app f x=>expR 8 0 0 [] [] [Exp.row f,Exp.row x] [] []
 | .pair a b=>expR 9 0 0 [] [] [Exp.row a,Exp.row b] [] []
 | .lets l x=>expR 10 0 0 [] [] [Exp.row x] (k1F l) []
 | .ite c a b=>expR 11 0 0 [] [] [Exp.row c,Exp.row a,Exp.row b] [] []
 | .cases x l=>expR 12 0 0 [] (l.map fun b=>b.1.row) (Exp.row x::g1w l) [] []
 | .bin o a b=>expR 13 o 0 [] [] [Exp.row a,Exp.row b] [] []
 | .ann x t=>expR 14 0 0 [] [] [Exp.row x] [] [t.row]
def Dec.row:Dec→Row
 | .val a n t x=>decR 1 a n [] (t.toList.map Ty.row) [Exp.row x]
 | .func a n ps t x=>decR 2 a n ps (t.toList.map Ty.row) [Exp.row x]
def k1F:List Dec→List Row
 |[]=>[]
 |d::l=>Dec.row d::k1F l
def g1w:List (Pat×Exp)→List Row
 |[]=>[]
 |(_,x)::l=>Exp.row x::g1w l
end
theorem c2a (a b:List Dec):k1F (a++b)=k1F a++k1F b:=by
 induction a with
 |nil=>rfl
 |cons d a ih=>simp [k1F,ih]
theorem z1l (a b:List (Pat×Exp)):g1w (a++b)=g1w a++g1w b:=by
 induction a with
 |nil=>rfl
 |cons d a ih=>obtain⟨p,x⟩:=d;simp [g1w,ih]
end Go.Pa
end

section
open Go Go.Eng
namespace Go.Proofs
noncomputable def shL5:List (Nat×KM):=[(c1X,.con (some (a1t Pg c1X)) none false),
 (a1r,.con (some (a1t Pg a1r)) none false),
 (a1l,.con (some (a1t Pg a1l)) none false),
 (c1M,.con (some (a1t Pg c1M)) none false),
 (f1M,.con (some (a1t Pg f1M)) none false),
 (f1o,.con (some (a1t Pg f1o)) none false),
 (e1K,.con (some (a1t Pg e1K)) none false),
 (e1j,.con (some (a1t Pg e1j)) none false),
 (e1J,.con (some (a1t Pg e1J)) none false),
 (c1f,.con (some (a1t Pg c1f)) none false),
 (b1Y,.con (some (a1t Pg b1Y)) none false),
 (f1C,.con (some (a1t Pg f1C)) none false),
 (b1H,.con (some (a1t Pg b1H)) none false),
 (d1x,.con (some (a1t Pg d1x)) none false),
 (d1l,.con (some (a1t Pg d1l)) none false),
 (d1k,.con (some (a1t Pg d1k)) none false),
 (d1T,.con (some (a1t Pg d1T)) none false),
 (d1w,.con (some (a1t Pg d1w)) none false),
 (b1Q,.con (some (a1t Pg b1Q)) none false),
 (b1r,.con (some (a1t Pg b1r)) none false),
 (c1n,.con (some (a1t Pg c1n)) none false),
 (e1z,.con (some (a1t Pg e1z)) none false),
 (b1j,.con (some (a1t Pg b1j)) none false),
 (e1y,.con (some (a1t Pg e1y)) none false),
 (e1i,.con (some (a1t Pg e1i)) none false),
 (e1h,.con (some (a1t Pg e1h)) none false),
 (a1g,.con (some (a1t Pg a1g)) none true),
 (a1f,.con (some (a1t Pg a1f)) (some (a1p,.const (.agg []))) true),
 (a1z,.con (some (a1t Pg a1z)) (some (a1p,.const (.agg []))) true),
 (b1F,.con (some (a1t Pg b1F)) (some (a1p,.const (.agg []))) true),
 (a1D,.con (some (a1t Pg a1D)) (some (a1p,.const (.agg []))) true),
 (a1o,.con (some (a1t Pg a1o)) (some (a1p,.const (.agg []))) true),
 (a1I,.con (some (a1t Pg a1I)) (some (a1p,.const (.agg []))) true),
 (a1i,.con (some (a1t Pg a1i)) (some (a1p,.const (.agg []))) true),
 (b1c,.con (some (a1t Pg b1c)) (some (a1p,.const (.agg []))) true),
 (b1o,.con (some (a1t Pg b1o)) (some (a1p,.const (.agg []))) true),
 (b1p,.con (some (a1t Pg b1p)) (some (a1p,.const (.agg []))) true),
 (b1n,.con (some (a1t Pg b1n)) (some (a1p,.const (.agg []))) true),
 (b1m,.con (some (a1t Pg b1m)) (some (a1p,.const (.agg []))) true),
 (b1E,.con (some (a1t Pg b1E)) (some (a1p,.const (.agg []))) true),
 (a1M,.con (some (a1t Pg a1M)) (some (a1p,.const (.agg []))) true),
 (a1W,.con (some (a1t Pg a1W)) (some (a1p,.const (.agg []))) true),
 (a1C,.con (some (a1t Pg a1C)) (some (a1p,.const (.agg []))) true),
 (a1k,.con (some (a1t Pg a1k)) (some (a1p,.const (.agg []))) true),
 (b1u,.con (some (a1t Pg b1u)) (some (a1p,.const (.agg []))) true),
 (a1v,.con (some (a1t Pg a1v)) (some (a1p,.const (.agg []))) true),
 (f1k,.con (some (a1t Pg f1k)) none true),
 (f1n,.con (some (a1t Pg f1n)) none true),
 (f1q,.con (some (a1t Pg f1q)) none true),
 (d1G,.con (some (a1t Pg d1G)) none true),
 (d1H,.con (some (a1t Pg d1H)) none true),
 (d1e,.con (some (a1t Pg d1e)) none true),
 (c1A,.con (some (a1t Pg c1A)) none true),
 (d1b,.con (some (a1t Pg d1b)) none true),
 (d1c,.con (some (a1t Pg d1c)) none true),
 (c1t,.con (some (a1t Pg c1t)) none true),
 (d1W,.con (some (a1t Pg d1W)) none true),
 (c1Y,.con (some (a1t Pg c1Y)) none true),
 (c1s,.con (some (a1t Pg c1s)) none true),
 (d1V,.con (some (a1t Pg d1V)) none true),
 (d1t,.con (some (a1t Pg d1t)) none true),
 (e1c,.con (some (a1t Pg e1c)) none true),
 (d1X,.con (some (a1t Pg d1X)) none true),
 (d1Z,.con (some (a1t Pg d1Z)) none true),
 (d1I,.con (some (a1t Pg d1I)) none true),
 (e1b,.con (some (a1t Pg e1b)) none true),
 (d1J,.con (some (a1t Pg d1J)) none true),
 (i1O,.inl true),
 (h1C,.inl true),
 (h1u,.inl true),
 (h1B,.inl true),
 (h1r,.inl true),
 (h1q,.inl true),
 (h1v,.inl true)]
noncomputable def sh5:FuncId→KM:=fun f=>match shL5.lookup f with
 |some k=>k
 |none=>.inl false
@[irreducible] noncomputable def kc5:KC:=j1Y Pg cfg0 rs0 sh5 12
@[irreducible] noncomputable def kt5 (f:FuncId) (args:List AV) (H:Heap):KT:=u1j Pg cfg0 rs0 sh5 12 false f args .none H
theorem hkc5 {QD:List (St→Prop)} {QR:CRes→Prop}:KCS Pg cfg0 evp QD QR kc5:=by
 delta kc5
 exact f1f (d1h hx0) 12 _
theorem k2a {f:FuncId} {args:List AV} {H:Heap} {r:CRes} (h:(kt5 f args H).wp Pg cfg0 evp [] (fun x=>x=r)):evp f args .none H=some r:=by
 delta kt5 at h
 obtain⟨x,h1,rfl⟩:=d1S (d1h hx0) h
 exact h1
theorem l1s {σ:Type} {t:KT} {QD:List (St→Prop)} {QR:CRes→Prop} (S:σ→St) (Inv:σ→Prop) (m:σ→Nat) (a0:σ) (h0:t.atLoop=some (S a0)) (hi:Inv a0)
  (hr:∀a,Inv a→(t.round Pg cfg0 rs0 kc5 (S a)).wp Pg cfg0 evp ((fun s=>∃a',(Inv a'∧m a'<m a)∧s=S a')::QD) QR):t.wp Pg cfg0 evp QD QR:=
 m1J (rs:=rs0) (kc:=kc5) S Inv m a0 (fun _=>hkc5) h0 hi hr
end Go.Proofs
end

section
/- PARSE: the program's reader: what its functions come to (RC), and how a tree asks for it -/
set_option linter.unusedVariables false
set_option linter.unusedSimpArgs false
open Go Go.Eng Go.Pa
open Go.Lx (T Tok)
namespace Go.Proofs
theorem u1R:∀f e,gx f=some e→∀args v,e args=some v→∀ρ:Nat→Nat,e (args.map (AV.ren ρ))=some (v.ren ρ):=by
 intro f e hf args v hv ρ
 unfold gx extL at hf
 simp only[List.lookup] at hf
 split at hf
 ·injection hf with hf;subst hf
  unfold g1Y at hv
  split at hv
  ·split at hv
   ·rename_i hc
    injection hv with hv;subst hv
    simp only[List.map_cons,List.map_nil,AV.ren,g1Y,if_pos hc]
   ·cases hv
  ·cases hv
 ·split at hf
  ·injection hf with hf;subst hf
   unfold e1S at hv
   split at hv
   ·split at hv
    ·rename_i hsz
     simp only[List.map_cons,List.map_nil,AV.ren,e1S,if_pos hsz]
     split at hv
     ·rename_i hp;injection hv with hv;subst hv;rfl
     ·rename_i hp;injection hv with hv;subst hv;rfl
     ·cases hv
    ·cases hv
   ·cases hv
  ·split at hf
   ·injection hf with hf;subst hf
    unfold z1f at hv
    split at hv
    ·split at hv
     ·rename_i xs hx
      split at hv
      ·rename_i hl
       injection hv with hv;subst hv
       simp only[List.map_cons,List.map_nil,AV.ren,z1f,m1L ρ hx,if_pos hl]
      ·cases hv
     ·cases hv
    ·cases hv
   ·cases hf
abbrev tks (l:List Tok):List (List AV):=l.map tokRow
abbrev hp5 (l:List (List AV)) (z e p d:Int):List AV:=[.slice 4 l .no,vI z,vI e,vI p,vI d]
abbrev rH (l:List Tok) (z d:Nat):Heap:=[hp5 (tks l) z 0 0 d]
abbrev rB (rows:List (List AV)) (z e p d:Nat):Heap:=[hp5 rows z e p d]
abbrev g1T:AV:=.iface a1p (.agg [])
def gtok (t:Tok):Prop:=(t.kind=5→t.text≠[])∧(t.kind=1→∃c r,t.text=c::r∧Lx.low c=true)∧(t.kind=2→∃c r,t.text=c::r∧Lx.high c=true)∧(t.kind=3→∃c r,t.text=c::r∧Lx.low c=true)
def Gd (l:List Tok):Prop:=∀t∈l,gtok t
theorem Gd.tail {l:List Tok} (h:Gd l):Gd l.tail:=fun t ht=>h t (List.mem_of_mem_tail ht)
theorem Gd.cons {t:Tok} {l:List Tok} (h:Gd (t::l)):gtok t∧Gd l:=⟨h t (by simp),fun u hu=>h u (by simp [hu])⟩
theorem Gd.nil:Gd []:=fun t ht=>by cases ht
def Rq {α:Type} (v:α→AV) (F:Res α) (z d:Nat) (r:CRes):Prop:=
 match F with
 | .ok a l=>Gd l∧r=⟨.ret (v a),.none,rH l z d⟩
 | .no e p=>e≠0∧∃l:List Tok,r=⟨.panic g1T,.none,rB (tks l) z e p d⟩
def RC {α:Type} (v:α→AV) (F:Res α) (z d:Nat) (g:FuncId) (args:List AV) (H:Heap):Prop:=∃r,evp g args .none H=some r∧Rq v F z d r
theorem c1l {α:Type} {v:α→AV} {F:Res α} {z d:Nat} {a:α} {l:List Tok} {x:AV} (h:F=.ok a l) (hg:Gd l) (hx:x=v a):Rq v F z d ⟨.ret x,.none,rH l z d⟩:=by
 subst h hx;exact⟨hg,rfl⟩
theorem b1s {α:Type} {v:α→AV} {F:Res α} {z d e p:Nat} {l:List Tok} (h:F=.no e p) (he:e≠0):Rq v F z d ⟨.panic g1T,.none,rB (tks l) z e p d⟩:=by
 subst h;exact⟨he,l,rfl⟩
theorem i1E {α:Type} {v:α→AV} {F:Res α} {z d:Nat} {g:FuncId} {args:List AV} {H:Heap} (h:(kt5 g args H).wp Pg cfg0 evp [] (Rq v F z d)):RC v F z d g args H:=by
 delta kt5 at h
 exact d1S (d1h hx0) h
theorem x1Y {f:FuncId} {args:List AV} {H:Heap} {Q:CRes→Prop} (h:(kt5 f args H).wp Pg cfg0 evp [] Q):∃r,evp f args .none H=some r∧Q r:=by
 delta kt5 at h
 exact d1S (d1h hx0) h
def tyK:Ty→Int
 | .var _=>1
 | .con _=>2
 | .fn _ _=>3
 | .pair _ _=>4
def tyN:Ty→ByteArray
 | .var n=>bs n
 |_=>bs []
def tyP:Ty→List (List AV)
 | .con p=>p.map fun t=>[vS (bs t)]
 |_=>[]
def tyQ:Ty→List (List AV)
 | .fn a b=>[avs a.row,avs b.row]
 | .pair a b=>[avs a.row,avs b.row]
 |_=>[]
theorem h1o (p:List T):avss (p.map fun t=>[cs t])=p.map fun t=>[vS (bs t)]:=by
 rw[g1Q,List.map_map];rfl
theorem g1y (t:Ty):avs t.row=[vI (tyK t),vS (tyN t),.slice 1 (tyP t) .no,.slice 4 (tyQ t) .no]:=by
 cases t with
 |var n=>rfl
 |con p=>simp only[Ty.row,avs,CT.av,cp,h1o,tyK,tyN,tyP,tyQ];rfl
 |fn a b=>rfl
 |pair a b=>rfl
abbrev tyV (t:Ty):AV:=.agg (avs t.row)
abbrev strV (t:T):AV:=vS (bs t)
abbrev f2l (p:List T):AV:=.slice 1 (p.map fun t=>[vS (bs t)]) .no
abbrev j2A (_:Unit):AV:=.tuple []
abbrev u1S (x:List T×Bool):AV:=.tuple [f2l x.1,vB x.2]
section
variable {QD:List (St→Prop)} {QR:CRes→Prop}
theorem h2F {g:FuncId} {args:List AV} {H:Heap} {t f:KT} {b:Bool} (c:evp g args .none H=some ⟨.ret (vB b),.none,H⟩) (h1:b=true→t.wp Pg cfg0 evp QD QR) (h2:b=false→f.wp Pg cfg0 evp QD QR):
  (KT.exB fun b=>.call g args .none H ⟨.ret (vB b),.none,H⟩ (.branch b t f)).wp Pg cfg0 evp QD QR:=⟨b,c,h1,h2⟩
theorem l1k {g:FuncId} {args:List AV} {H:Heap} {l:List Tok} {z d:Nat} {w:ByteArray} {t f:List (List AV)→Int→Int→Int→Int→KT}
  (c:evp g args .none H=some ⟨.ret (vB (isW (tx w) l)),.none,rH (if isW (tx w) l then l.tail else l) z d⟩)
  (h1:isW (tx w) l=true→(t (tks l.tail) z 0 0 d).wp Pg cfg0 evp QD QR) (h2:isW (tx w) l=false→(f (tks l) z 0 0 d).wp Pg cfg0 evp QD QR):
  (KT.exB fun b=>.exR fun m=>.exI fun a=>.exI fun e=>.exI fun p=>.exI fun d'=>.call g args .none H ⟨.ret (vB b),.none,[hp5 m a e p d']⟩ (.branch b (t m a e p d') (f m a e p d'))).wp Pg cfg0 evp QD QR:=by
 cases hb:isW (tx w) l with
 |true=>rw[hb] at c;exact⟨true,_,_,_,_,_,c,fun _=>h1 hb,fun h=>(by cases h)⟩
 |false=>rw[hb] at c;exact⟨false,_,_,_,_,_,c,fun h=>(by cases h),fun _=>h2 hb⟩
variable {z d:Nat} {g:FuncId} {args:List AV} {H:Heap} {k2:List (List AV)→Int→Int→Int→Int→KT}
theorem c1W {F:Res Unit} {k1:List (List AV)→Int→Int→Int→Int→KT} (c:RC j2A F z d g args H)
  (hok:∀u l,F=.ok u l→Gd l→(k1 (tks l) z 0 0 d).wp Pg cfg0 evp QD QR) (hno:∀e p l,F=.no e p→e≠0→(k2 (tks l) z e p d).wp Pg cfg0 evp QD QR):
  (KT.alt (.exR fun m=>.exI fun a=>.exI fun e=>.exI fun p=>.exI fun d'=>.call g args .none H ⟨.ret (.tuple []),.none,[hp5 m a e p d']⟩ (k1 m a e p d'))
   (.exR fun m=>.exI fun a=>.exI fun e=>.exI fun p=>.exI fun d'=>.call g args .none H ⟨.panic g1T,.none,[hp5 m a e p d']⟩ (k2 m a e p d'))).wp Pg cfg0 evp QD QR:=by
 obtain⟨r,h1,h2⟩:=c
 cases hF:F with
 |ok a l=>rw[hF] at h2;obtain⟨hg,rfl⟩:=h2;exact .inl ⟨_,_,_,_,_,h1,hok a l hF hg⟩
 |no e p=>rw[hF] at h2;obtain⟨he,l,rfl⟩:=h2;exact .inr ⟨_,_,_,_,_,h1,hno e p l hF he⟩
theorem p1K {F:Res T} {k1:ByteArray→List (List AV)→Int→Int→Int→Int→KT} (c:RC strV F z d g args H)
  (hok:∀u l,F=.ok u l→Gd l→(k1 (bs u) (tks l) z 0 0 d).wp Pg cfg0 evp QD QR) (hno:∀e p l,F=.no e p→e≠0→(k2 (tks l) z e p d).wp Pg cfg0 evp QD QR):
  (KT.alt (.exS fun s=>.exR fun m=>.exI fun a=>.exI fun e=>.exI fun p=>.exI fun d'=>.call g args .none H ⟨.ret (vS s),.none,[hp5 m a e p d']⟩ (k1 s m a e p d'))
   (.exR fun m=>.exI fun a=>.exI fun e=>.exI fun p=>.exI fun d'=>.call g args .none H ⟨.panic g1T,.none,[hp5 m a e p d']⟩ (k2 m a e p d'))).wp Pg cfg0 evp QD QR:=by
 obtain⟨r,h1,h2⟩:=c
 cases hF:F with
 |ok a l=>rw[hF] at h2;obtain⟨hg,rfl⟩:=h2;exact .inl ⟨_,_,_,_,_,_,h1,hok a l hF hg⟩
 |no e p=>rw[hF] at h2;obtain⟨he,l,rfl⟩:=h2;exact .inr ⟨_,_,_,_,_,h1,hno e p l hF he⟩
theorem h2G {F:Res (List T)} {k1:List (List AV)→List (List AV)→Int→Int→Int→Int→KT} (c:RC f2l F z d g args H)
  (hok:∀u l,F=.ok u l→Gd l→(k1 (u.map fun t=>[vS (bs t)]) (tks l) z 0 0 d).wp Pg cfg0 evp QD QR) (hno:∀e p l,F=.no e p→e≠0→(k2 (tks l) z e p d).wp Pg cfg0 evp QD QR):
  (KT.alt (.exR fun s=>.exR fun m=>.exI fun a=>.exI fun e=>.exI fun p=>.exI fun d'=>.call g args .none H ⟨.ret (.slice 1 s .no),.none,[hp5 m a e p d']⟩ (k1 s m a e p d'))
   (.exR fun m=>.exI fun a=>.exI fun e=>.exI fun p=>.exI fun d'=>.call g args .none H ⟨.panic g1T,.none,[hp5 m a e p d']⟩ (k2 m a e p d'))).wp Pg cfg0 evp QD QR:=by
 obtain⟨r,h1,h2⟩:=c
 cases hF:F with
 |ok a l=>rw[hF] at h2;obtain⟨hg,rfl⟩:=h2;exact .inl ⟨_,_,_,_,_,_,h1,hok a l hF hg⟩
 |no e p=>rw[hF] at h2;obtain⟨he,l,rfl⟩:=h2;exact .inr ⟨_,_,_,_,_,h1,hno e p l hF he⟩
theorem s1z {F:Res (List T×Bool)} {k1:List (List AV)→Bool→List (List AV)→Int→Int→Int→Int→KT} (c:RC u1S F z d g args H)
  (hok:∀u l,F=.ok u l→Gd l→(k1 (u.1.map fun t=>[vS (bs t)]) u.2 (tks l) z 0 0 d).wp Pg cfg0 evp QD QR) (hno:∀e p l,F=.no e p→e≠0→(k2 (tks l) z e p d).wp Pg cfg0 evp QD QR):
  (KT.alt (.exR fun s=>.exB fun b=>.exR fun m=>.exI fun a=>.exI fun e=>.exI fun p=>.exI fun d'=>.call g args .none H ⟨.ret (.tuple [.slice 1 s .no,vB b]),.none,[hp5 m a e p d']⟩ (k1 s b m a e p d'))
   (.exR fun m=>.exI fun a=>.exI fun e=>.exI fun p=>.exI fun d'=>.call g args .none H ⟨.panic g1T,.none,[hp5 m a e p d']⟩ (k2 m a e p d'))).wp Pg cfg0 evp QD QR:=by
 obtain⟨r,h1,h2⟩:=c
 cases hF:F with
 |ok a l=>rw[hF] at h2;obtain⟨hg,rfl⟩:=h2;exact .inl ⟨_,_,_,_,_,_,_,h1,hok a l hF hg⟩
 |no e p=>rw[hF] at h2;obtain⟨he,l,rfl⟩:=h2;exact .inr ⟨_,_,_,_,_,h1,hno e p l hF he⟩
theorem w1v {F:Res Ty} {k1:Int→ByteArray→List (List AV)→List (List AV)→List (List AV)→Int→Int→Int→Int→KT} (c:RC tyV F z d g args H)
  (hok:∀t l,F=.ok t l→Gd l→(k1 (tyK t) (tyN t) (tyP t) (tyQ t) (tks l) z 0 0 d).wp Pg cfg0 evp QD QR) (hno:∀e p l,F=.no e p→e≠0→(k2 (tks l) z e p d).wp Pg cfg0 evp QD QR):
  (KT.alt (.exI fun i=>.exS fun s=>.exR fun l1=>.exR fun l2=>.exR fun m=>.exI fun a=>.exI fun e=>.exI fun p=>.exI fun d'=>.call g args .none H ⟨.ret (.agg [vI i,vS s,.slice 1 l1 .no,.slice 4 l2 .no]),.none,[hp5 m a e p d']⟩ (k1 i s l1 l2 m a e p d'))
   (.exR fun m=>.exI fun a=>.exI fun e=>.exI fun p=>.exI fun d'=>.call g args .none H ⟨.panic g1T,.none,[hp5 m a e p d']⟩ (k2 m a e p d'))).wp Pg cfg0 evp QD QR:=by
 obtain⟨r,h1,h2⟩:=c
 cases hF:F with
 |ok a l=>
  rw[hF] at h2
  simp only[Rq,tyV,g1y] at h2
  obtain⟨hg,rfl⟩:=h2;exact .inl ⟨_,_,_,_,_,_,_,_,_,h1,hok a l hF hg⟩
 |no e p=>rw[hF] at h2;obtain⟨he,l,rfl⟩:=h2;exact .inr ⟨_,_,_,_,_,h1,hno e p l hF he⟩
end
end Go.Proofs
end

section
/- PARSE, plain: how many nodes types have, how deep they are; their names are short -/
set_option linter.unusedVariables false
set_option linter.unusedSimpArgs false
namespace Go.Pa
open Go.Lx (T Tok)
def tok4 (l:List Tok):Prop:=∀t∈l,t.text.length≤4096∧t.n<9223372036854775808∧t.at_<4611686018427387904
theorem tok4.tail {l:List Tok} (h:tok4 l):tok4 l.tail:=fun t ht=>h t (List.mem_of_mem_tail ht)
theorem tok4.head {t:Tok} {l:List Tok} (h:tok4 (t::l)):t.text.length≤4096:=(h t (by simp)).1
theorem tok4.headN {t:Tok} {l:List Tok} (h:tok4 (t::l)):t.n<9223372036854775808:=(h t (by simp)).2.1
theorem tok4.headA {t:Tok} {l:List Tok} (h:tok4 (t::l)):t.at_<4611686018427387904:=(h t (by simp)).2.2
def f1h (n:T):Prop:=n.length≤4096
def h1m (p:List T):Prop:=p.length≤8∧∀w∈p,f1h w
def Wt {α:Type} (P:α→Prop) (c:α→Nat) (b:Nat) (x:Res α):Prop:=∀a r,x=.ok a r→P a∧c a+r.length≤b∧tok4 r
theorem Wt.ok {α:Type} {P:α→Prop} {c:α→Nat} {b:Nat} {a:α} {r:List Tok} (h1:P a) (h2:c a+r.length≤b) (h3:tok4 r):Wt P c b (.ok a r):=fun _ _ h=>by
 injection h with e1 e2;subst e1 e2;exact⟨h1,h2,h3⟩
theorem Wt.no {α:Type} {P:α→Prop} {c:α→Nat} {b e p:Nat}:Wt P c b (.no e p):=fun _ _ h=>by cases h
theorem Wt.bind {α β:Type} {P:α→Prop} {c:α→Nat} {Q:β→Prop} {d:β→Nat} {b b':Nat} {x:Res α} {f:α→List Tok→Res β} (h:Wt P c b x) (hf:∀a r,P a→c a+r.length≤b→tok4 r→Wt Q d b' (f a r)):Wt Q d b' (x.bind f):=fun y r e=>by
 obtain⟨a,r1,h1,h2⟩:=f1c.1 e
 obtain⟨p1,p2,p3⟩:=h a r1 h1
 exact hf a r1 p1 p2 p3 y r h2
theorem Wt.ite {α:Type} {P:α→Prop} {k:α→Nat} {b:Nat} {c:Prop} [Decidable c] {x y:Res α} (h1:c→Wt P k b x) (h2:¬c→Wt P k b y):Wt P k b (if c then x else y):=by
 split
 ·exact h1 ‹_›
 ·exact h2 ‹_›
theorem Wt.need {z:Nat} {w:T} {l:List Tok} (h:tok4 l):Wt (fun _=>True) (fun _=>1) l.length (need z w l):=fun a r e=>by
 have:=c1K e
 unfold Pa.need at e
 split at e
 ·injection e with _ e;subst e;exact⟨trivial,by show 1+_≤_;omega,h.tail⟩
 ·cases e
theorem Wt.taken {z k:Nat} {l:List Tok} (h:tok4 l):Wt f1h (fun _=>1) l.length (taken z k l):=fun a r e=>by
 have:=k1d e
 cases l with
 |nil=>cases e
 |cons t l=>
  simp only[Pa.taken] at e
  split at e
  ·injection e with e1 e2;subst e1 e2;exact⟨h.head,by simp at *;omega,h.tail⟩
  ·cases e
theorem Wt.path {z:Nat} {a b:Bool} {s:Nat}:∀(k:Nat) {p:List T} {l:List Tok},l.length≤k→tok4 l→(∀w∈p,f1h w)→Wt (fun x:List T×Bool=>h1m x.1) (fun _=>1) l.length (path z a b s p l):=by
 intro k
 induction k with
 |zero=>intro p l hk _ _;cases l with
  |nil=>unfold Pa.path;exact Wt.no
  |cons t l=>simp at hk
 |succ k ih=>
  intro p l hk h4 hp
  cases l with
  |nil=>unfold Pa.path;exact Wt.no
  |cons t l=>
   have hp':∀w∈p++[t.text],f1h w:=fun w hw=>by
    rcases List.mem_append.1 hw with hw|hw
    ·exact hp w hw
    ·simp at hw;subst hw;exact h4.head
   unfold Pa.path
   refine Wt.ite (fun _=>Wt.ite (fun _=>Wt.no) fun h8=>Wt.ite (fun _=>Wt.ok ⟨by simp;omega,hp'⟩ (by simp;omega) h4.tail) fun _=>?_) fun _=>Wt.no
   split
   ·exact Wt.ite (fun _=>Wt.ok ⟨by simp;omega,hp'⟩ (by simp) (fun t ht=>by cases ht)) fun _=>Wt.no
   ·rename_i d l'
    refine Wt.ite (fun _ x r e=>?_) fun _=>Wt.ite (fun _=>Wt.ok ⟨by simp;omega,hp'⟩ (by simp;omega) h4.tail) fun _=>Wt.no
    obtain⟨q1,q2,q3⟩:=ih (l:=l') (by simp at hk;omega) h4.tail.tail hp' x r e
    have q2':1+r.length≤l'.length:=q2
    exact⟨q1,by show 1+r.length≤_;simp;omega,q3⟩
def Ty.cnt:Ty→Nat
 | .var _=>1
 | .con _=>1
 | .fn a b=>a.cnt+b.cnt+1
 | .pair a b=>a.cnt+b.cnt+1
def Ty.dep:Ty→Nat
 | .var _=>1
 | .con _=>1
 | .fn a b=>max a.dep b.dep+1
 | .pair a b=>max a.dep b.dep+1
def Ty.Ok:Ty→Prop
 | .var n=>f1h n
 | .con p=>h1m p
 | .fn a b=>a.Ok∧b.Ok
 | .pair a b=>a.Ok∧b.Ok
structure WtT (z n:Nat):Prop where
 ty:∀{l},tok4 l→Wt Ty.Ok Ty.cnt l.length (pTy z n l)
 pair:∀{l},tok4 l→Wt Ty.Ok Ty.cnt l.length (g1a z n l)
 pairs:∀{t l},tok4 l→t.Ok→Wt Ty.Ok Ty.cnt (t.cnt+l.length) (d1A z n t l)
 aty:∀{l},tok4 l→Wt Ty.Ok Ty.cnt l.length (pAty z n l)
theorem wtT (z:Nat):∀n,WtT z n:=by
 intro n
 induction n with
 |zero=>exact⟨fun _=>(by rw[pTy];exact Wt.no),fun _=>(by rw[g1a];exact Wt.no),fun _ _=>(by rw[d1A];exact Wt.no),fun _=>(by rw[pAty];exact Wt.no)⟩
 |succ n ih=>
  constructor
  ·intro l h
   rw[pTy]
   refine Wt.bind (ih.pair h) fun a r h1 h2 h3=>Wt.ite (fun hw=>?_) (fun _=>Wt.ok h1 h2 h3)
   have:=a1T hw
   exact Wt.bind (ih.ty h3.tail) fun b r' k1 k2 k3=>Wt.ok ⟨h1,k1⟩ (by simp only[Ty.cnt];omega) k3
  ·intro l h
   rw[g1a]
   exact Wt.bind (ih.aty h) fun a r h1 h2 h3=>fun b r' e=>by
    obtain⟨k1,k2,k3⟩:=ih.pairs h3 h1 b r' e
    exact⟨k1,by omega,k3⟩
  ·intro t l h ht
   rw[d1A]
   refine Wt.ite (fun hw=>?_) (fun _=>Wt.ok ht (Nat.le_refl _) h)
   have:=a1T hw
   exact Wt.bind (ih.aty h.tail) fun b r' k1 k2 k3=>fun c r2 e=>by
    obtain⟨j1,j2,j3⟩:=ih.pairs (t:=.pair t b) k3 ⟨ht,k1⟩ c r2 e
    simp only[Ty.cnt] at j2
    exact⟨j1,by omega,j3⟩
  ·intro l h
   have hl:∀{w:T},isW w l=true→1+l.tail.length≤l.length:=fun hw=>by have:=a1T hw;omega
   have h1:∀w:T,w.length≤4096→h1m [w]:=fun w hw=>⟨by simp,fun x hx=>by simp at hx;subst hx;exact hw⟩
   rw[pAty]
   refine Wt.ite (fun hw=>Wt.ok (h1 _ (by decide)) (hl hw) h.tail) fun _=>Wt.ite (fun hw=>Wt.ok (h1 _ (by decide)) (hl hw) h.tail) fun _=>Wt.ite (fun hw=>Wt.ok (h1 _ (by decide)) (hl hw) h.tail) fun _=>Wt.ite (fun hw=>?_) fun _=>Wt.ite (fun hw=>?_) fun _=>?_
   ·cases l with
    |nil=>cases hw
    |cons t l=>
     refine Wt.ok ?_ (by simp [Ty.cnt];omega) h.tail
     have:=h.head
     show ((txt (t::l)).drop 1).length≤4096
     simp [txt];omega
   ·have:=a1T hw
    exact Wt.bind (ih.ty h.tail) fun t r k1 k2 k3=>Wt.bind (Wt.need k3) fun _ r' j1 j2 j3=>Wt.ok k1 (by omega) j3
   ·exact Wt.bind (Wt.path _ (Nat.le_refl _) h (fun w hw=>by cases hw)) fun x r k1 k2 k3=>Wt.ok k1 k2 k3
theorem p1A:∀t:Ty,t.dep≤t.cnt∧1≤t.cnt
 | .var _=>⟨Nat.le_refl _,Nat.le_refl _⟩
 | .con _=>⟨Nat.le_refl _,Nat.le_refl _⟩
 | .fn a b=>by have h1:=p1A a;have h2:=p1A b;simp only[Ty.dep,Ty.cnt];omega
 | .pair a b=>by have h1:=p1A a;have h2:=p1A b;simp only[Ty.dep,Ty.cnt];omega
end Go.Pa
end

section
/- PARSE: what a text's tokens are like -/
set_option linter.unusedVariables false
set_option linter.unusedSimpArgs false
set_option maxRecDepth 100000
open Go Go.Eng Go.Pa
open Go.Lx (T Tok low high digit one Pieces)
namespace Go.Proofs
theorem e2a {c:UInt8} {r:T} {k n v:Nat} (h:one resP (c::r)=.ok (k,n,v)):(k=1→low c=true)∧(k=2→high c=true)∧(k=3→low c=true):=by
 unfold one at h
 simp only at h
 split at h
 ·rename_i hc
  split at h
  ·cases h
  ·injection h with h;injection h with h1 h
   rw[Bool.or_eq_true] at hc
   by_cases hh:high c=true
   ·rw[if_pos hh] at h1;subst h1
    exact⟨fun h=>by omega,fun _=>hh,fun h=>by omega⟩
   ·have hl:low c=true:=by rcases hc with h|h;exact h;exact absurd h hh
    rw[if_neg hh] at h1
    refine⟨fun _=>hl,fun h2=>?_,fun _=>hl⟩
    exfalso;rw[h2] at h1;split at h1<;>omega
 ·split at h
  ·split at h
   ·cases h
   ·injection h with h;injection h with h1 h;subst h1
    exact⟨fun h=>by omega,fun h=>by omega,fun h=>by omega⟩
  ·split at h
   ·split at h
    ·cases h
    ·split at h
     ·cases h
     ·injection h with h;injection h with h1 h;subst h1
      exact⟨fun h=>by omega,fun h=>by omega,fun h=>by omega⟩
   ·split at h
    ·injection h with h;injection h with h1 h;subst h1
     exact⟨fun h=>by omega,fun h=>by omega,fun h=>by omega⟩
    ·split at h
     ·injection h with h;injection h with h1 h;subst h1
      exact⟨fun h=>by omega,fun h=>by omega,fun h=>by omega⟩
     ·cases h
theorem r1O:∀(l:T) (v w:Nat),v≤9223372036854775807→Lx.d1E v l=some w→w≤9223372036854775807
 |[],v,w,hv,h=>by simp only[Lx.d1E,Option.some.injEq] at h;omega
 |c::l,v,w,hv,h=>by
  simp only[Lx.d1E] at h
  split at h
  ·exact r1O l _ w (by assumption) h
  ·cases h
theorem i2p {l:T} {k n v:Nat} (h:one resP l=.ok (k,n,v)):v<9223372036854775808:=by
 by_cases hk:k=4
 ·cases l with
  |nil=>simp [one] at h
  |cons c r=>
   unfold one at h
   simp only at h
   split at h
   ·split at h
    ·cases h
    ·injection h with h;injection h with h1 h;injection h with h2 h3;omega
   ·split at h
    ·split at h
     ·cases h
     ·rename_i w hw
      injection h with h;injection h with h1 h;injection h with h2 h3
      have:=r1O _ _ _ (Nat.zero_le _) hw
      omega
    ·split at h
     ·split at h
      ·cases h
      ·split at h
       ·cases h
       ·injection h with h;injection h with h1 h;injection h with h2 h3;omega
     ·split at h
      ·injection h with h;injection h with h1 h;injection h with h2 h3;omega
      ·split at h
       ·injection h with h;injection h with h1 h;injection h with h2 h3;omega
       ·cases h
 ·have:=(Lx.e1f h).2.2.2.2 hk;omega
theorem a2S {l:T} {a:Nat} {ts:List Tok} (h:Pieces resP l a ts):∀t∈ts,t.n<9223372036854775808:=by
 induction h with
 |nil _=>intro t ht;cases ht
 | @cons b x l a k v ts hb h1 hh ho _ ih=>
  intro t ht
  rw[List.mem_cons] at ht
  rcases ht with rfl|ht
  ·exact i2p h1
  ·exact ih t ht
theorem e2b {l:T} {a:Nat} {ts:List Tok} (h:Pieces resP l a ts):Gd ts:=by
 induction h with
 |nil _=>exact Gd.nil
 | @cons b x l a k v ts hb h1 hh ho _ ih=>
  intro t ht
  rw[List.mem_cons] at ht
  rcases ht with rfl|ht
  ·obtain⟨q1,q2,_⟩:=Lx.e1f h1
   cases x with
   |nil=>simp at q1
   |cons c r=>
    obtain⟨f1,f2,f3⟩:=e2a (c:=c) (r:=r++l) h1
    exact⟨fun _=>by simp,fun hk=>⟨c,r,rfl,f1 hk⟩,fun hk=>⟨c,r,rfl,f2 hk⟩,fun hk=>⟨c,r,rfl,f3 hk⟩⟩
  ·exact ih t ht
theorem g1h {s:ByteArray} {ts:List Tok} (h:lexA s=.ok ts):s.size≤4096∧Gd ts∧tok4 ts∧ts.length≤1024:=by
 obtain⟨h1,h2,h3⟩:=x1v h
 refine⟨h1,e2b h2,fun t ht=>?_,h3⟩
 have:=h2.places t ht
 rw[e1e] at this
 exact⟨by omega,a2S h2 t ht,by omega⟩
end Go.Proofs
end

section
/- LEX: trees, printed by kt.py out of x4.txt -/
open Go Go.Eng
open IntKind (wrap)
namespace Go.Proofs
set_option linter.unusedVariables false
set_option maxRecDepth 100000
end Go.Proofs
end

section
/- LEX: what the document's functions answer, part 1 -/
open Go Go.Eng Go.Lx
namespace Go.Proofs
set_option linter.unusedVariables false
set_option linter.unusedSimpArgs false
set_option maxRecDepth 100000
end Go.Proofs
end
