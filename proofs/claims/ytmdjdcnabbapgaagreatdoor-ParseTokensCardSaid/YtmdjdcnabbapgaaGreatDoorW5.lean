/- Texts of this proof folded into one: E25 E26 E18. -/
import Derived.Test.YtmdjdcnabbapgaaGreatDoorW4
section
/-
  THE ENGINE, part 25: pointers under other names: values.
-/
set_option linter.unusedVariables false
set_option linter.unusedSimpArgs false
namespace Go.Eng
mutual
def AV.ren (ρ:Nat→Nat):AV→AV
 | .any=>.any
 | .val v=>.val v
 | .slice sz rows own=>.slice sz (k1F ρ rows) own
 | .ref cs=>.ref (rens ρ cs)
 | .ptr id off=>.ptr (ρ id) off
 | .lp t g o=>.lp t g o
 | .func fn a b=>.func fn (rens ρ a) (rens ρ b)
 | .iface t v=>.iface t (v.ren ρ)
 | .agg cs=>.agg (rens ρ cs)
 | .tuple vs=>.tuple (rens ρ vs)
def rens (ρ:Nat→Nat):List AV→List AV
 |[]=>[]
 |a::l=>a.ren ρ::rens ρ l
def k1F (ρ:Nat→Nat):List (List AV)→List (List AV)
 |[]=>[]
 |a::l=>rens ρ a::k1F ρ l
end
section
variable {ρ:Nat→Nat}
theorem d1O:∀l:List AV,rens ρ l=l.map (AV.ren ρ)
 |[]=>rfl
 |a::l=>by rw[rens,d1O l,List.map_cons]
theorem l1K:∀l:List (List AV),k1F ρ l=l.map (List.map (AV.ren ρ))
 |[]=>rfl
 |a::l=>by rw[k1F,l1K l,List.map_cons,d1O]
@[simp] theorem ren_any:AV.ren ρ .any=.any:=rfl
@[simp] theorem h1c (v:Value):AV.ren ρ (.val v)=.val v:=rfl
@[simp] theorem e1o (sz:Nat) (rows:List (List AV)) (own:Own):AV.ren ρ (.slice sz rows own)=.slice sz (rows.map (List.map (AV.ren ρ))) own:=by rw[AV.ren,l1K]
@[simp] theorem o1S (cs:List AV):AV.ren ρ (.ref cs)=.ref (cs.map (AV.ren ρ)):=by rw[AV.ren,d1O]
@[simp] theorem o1T (id off:Nat):AV.ren ρ (.ptr id off)=.ptr (ρ id) off:=rfl
@[simp] theorem x1q (t g o:Nat):AV.ren ρ (.lp t g o)=.lp t g o:=rfl
@[simp] theorem l1L (fn:Fn) (a b:List AV):AV.ren ρ (.func fn a b)=.func fn (a.map (AV.ren ρ)) (b.map (AV.ren ρ)):=by rw[AV.ren,d1O,d1O]
@[simp] theorem t1Q (t:TypeId) (v:AV):AV.ren ρ (.iface t v)=.iface t (v.ren ρ):=rfl
@[simp] theorem o1U (cs:List AV):AV.ren ρ (.agg cs)=.agg (cs.map (AV.ren ρ)):=by rw[AV.ren,d1O]
@[simp] theorem o1V (cs:List AV):AV.ren ρ (.tuple cs)=.tuple (cs.map (AV.ren ρ)):=by rw[AV.ren,d1O]
@[simp] theorem m1C (v:AV):v.dis.ren ρ=(v.ren ρ).dis:=by
 cases v with
 |slice sz rows own=>cases own<;>simp [AV.dis]
 |_=>simp [AV.dis]
theorem e1p (l:List AV):(l.map AV.dis).map (AV.ren ρ)=(l.map (AV.ren ρ)).map AV.dis:=by
 simp only[List.map_map];exact List.map_congr_left fun a _=>m1C a
theorem t1R (v:AV):(v.ren ρ).cells=v.cells.map (List.map (AV.ren ρ)):=by
 cases v with
 |val v=>cases v<;>simp [AV.cells]
 |_=>simp [AV.cells]
theorem e1i (v:AV):(v.ren ρ).cells.map (List.map AV.dis)=(v.cells.map (List.map AV.dis)).map (List.map (AV.ren ρ)):=by
 rw[t1R]
 cases v.cells with
 |none=>rfl
 |some l=>simp only[Option.map_some,e1p]
theorem r1f (v:AV):(v.ren ρ).scells=v.scells.map (List.map (AV.ren ρ)):=by
 cases v with
 |slice sz rows own=>simp [AV.scells]
 |val v=>simp only[h1c,AV.scells];exact e1i (.val v)
 |any=>simp only[AV.scells];exact e1i .any
 |ref cs=>have:=e1i (ρ:=ρ) (.ref cs);simp only[o1S] at this⊢;simpa only[AV.scells] using this
 |ptr a b=>have:=e1i (ρ:=ρ) (.ptr a b);simp only[o1T] at this⊢;simpa only[AV.scells] using this
 |lp a b c=>have:=e1i (ρ:=ρ) (.lp a b c);simp only[x1q] at this⊢;simpa only[AV.scells] using this
 |func a b c=>have:=e1i (ρ:=ρ) (.func a b c);simp only[l1L] at this⊢;simpa only[AV.scells] using this
 |iface a b=>have:=e1i (ρ:=ρ) (.iface a b);simp only[t1Q] at this⊢;simpa only[AV.scells] using this
 |agg a=>have:=e1i (ρ:=ρ) (.agg a);simp only[o1U] at this⊢;simpa only[AV.scells] using this
 |tuple a=>have:=e1i (ρ:=ρ) (.tuple a);simp only[o1V] at this⊢;simpa only[AV.scells] using this
@[simp] theorem t1S:∀l:List AV,h1B (l.map (AV.ren ρ))=h1B l
 |[]=>rfl
 |a::l=>by cases a<;>simp [h1B,t1S l]
@[simp] theorem o1W (v:AV):(v.ren ρ).toVal=v.toVal:=by
 cases v with
 |iface t v=>cases v<;>simp [AV.toVal]
 |_=>simp [AV.toVal]
@[simp] theorem r1U (v:AV):(v.ren ρ).isLp=v.isLp:=by cases v<;>simp [AV.isLp]
@[simp] theorem h1d (l:List AV):(l.map (AV.ren ρ)).any AV.isLp=l.any AV.isLp:=by
 induction l with
 |nil=>rfl
 |cons a l ih=>simp only[List.map_cons,List.any_cons,r1U,ih]
@[simp] theorem e2m (l:List Value):(l.map AV.val).map (AV.ren ρ)=l.map AV.val:=by
 simp only[List.map_map];exact List.map_congr_left fun a _=>rfl
@[simp] theorem r1g (v:Value):(ofCell v).ren ρ=ofCell v:=by
 unfold ofCell;split<;>simp only[e1o,l1L,h1c,e2m,List.map_nil]
@[simp] theorem j1d (l:List Value):(l.map ofCell).map (AV.ren ρ)=l.map ofCell:=by
 simp only[List.map_map];exact List.map_congr_left fun a _=>r1g a
@[simp] theorem i2w (v:Value):(ofVal v).ren ρ=ofVal v:=by
 unfold ofVal
 split
 ·split
  ·simp only[o1U,j1d]
  ·rfl
 ·exact r1g v
theorem r1V (s:List AV) (t:Nat):(s.map (AV.ren ρ)).getD t .any=(s.getD t .any).ren ρ:=by
 simp only[List.getD_eq_getElem?_getD,List.getElem?_map]
 cases s[t]?<;>rfl
theorem o1X (s:List AV) (x:Operand):e1I (s.map (AV.ren ρ)) x=(e1I s x).ren ρ:=by
 cases x with
 |tmp t=>exact r1V s t
 |const v=>simp [e1I]
 |_=>simp [e1I]
theorem g1i:∀(new cs:List AV) (off:Nat),b1M (cs.map (AV.ren ρ)) off (new.map (AV.ren ρ))=(b1M cs off new).map (AV.ren ρ)
 |[],cs,off=>rfl
 |v::r,cs,off=>by simp only[List.map_cons,b1M,←List.map_set,g1i r]
section
variable {P:Program}
theorem l1M {t:TypeId}:(zeroCells P t).map (List.map (AV.ren ρ))=zeroCells P t:=by
 unfold zeroCells
 split
 ·split
  ·simp only[Option.map_some,j1d]
  ·rfl
 ·rfl
theorem d1e (t:TypeId) (cs:List AV) (off:Nat):c1M P t (cs.map (AV.ren ρ)) off=(c1M P t cs off).map (AV.ren ρ):=by
 unfold c1M
 split
 ·split
  ·rename_i n hn
   simp only[List.length_map]
   split
   ·simp only[Option.map_some,o1U,Option.some.injEq,AV.agg.injEq,←List.map_drop,←List.map_take,e1p]
   ·rfl
  ·rfl
 ·rw[List.getElem?_map]
  cases cs[off]?<;>simp
 ·rfl
def renP (ρ:Nat→Nat) (ps:List (Nat×AV)):List (Nat×AV):=ps.map fun p=>(p.1,p.2.ren ρ)
theorem o1Y (t:TypeId):∀(ps:List (Nat×AV)) (cells:List AV),l1w P t (cells.map (AV.ren ρ)) (renP ρ ps)=(l1w P t cells ps).map (List.map (AV.ren ρ))
 |[],cells=>rfl
 |(i,v)::rest,cells=>by
  simp only[renP,List.map_cons,l1w,t1R]
  cases place? P t i with
  |none=>rfl
  |some p=>
   obtain⟨off,n⟩:=p
   cases v.cells with
   |none=>rfl
   |some cs=>
    simp only[Option.map_some,List.length_map]
    split
    ·rw[←e1p,g1i];exact o1Y t rest _
    ·rfl
theorem j1W {α:Type}:∀(ps:List (Nat×α)) (vs:List AV),f1t ps (vs.map (AV.ren ρ))=renP ρ (f1t ps vs)
 |[],vs=>by cases vs<;>rfl
 |(i,a)::r,[]=>rfl
 |(i,a)::r,v::vs=>by simp only[List.map_cons,f1t,j1W r vs];rfl
theorem r1h (sz:Nat):∀(n:Nat) (l:List AV),h1C sz n (l.map (AV.ren ρ))=(h1C sz n l).map (List.map (AV.ren ρ))
 |0,l=>rfl
 |n+1,l=>by simp only[h1C,List.map_cons,←List.map_take,←List.map_drop,r1h sz n]
theorem o1Z (l:List AV) (n:Nat) (h:l.map (AV.ren ρ)=l):(f1P l n).map (AV.ren ρ)=f1P l n:=by
 induction n with
 |zero=>rfl
 |succ n ih=>
  simp only[f1P,List.replicate_succ,List.flatten_cons,List.map_append,h] at ih⊢
  rw[ih]
theorem t1T (t:TypeId) (a b:AV):g1D P t (a.ren ρ) (b.ren ρ)=g1D P t a b:=by
 unfold g1D
 cases P.underlying t with
 |none=>rfl
 |some d=>
  cases a with
  |val v=>cases b with
   |val u=>rfl
   |_=>cases d<;>first|rfl|(cases v<;>first|rfl|(rename_i p;cases p<;>rfl))
  |_=>cases b with
   |val v=>cases d<;>first|rfl|(cases v<;>first|rfl|(rename_i p;cases p<;>rfl))
   |_=>cases d<;>rfl
theorem e2n (op:BinOp) (t:TypeId) (x y:Operand) (a b:AV):abin P op t x y (a.ren ρ) (b.ren ρ)=(abin P op t x y a b).map (AV.ren ρ):=by
 unfold abin
 simp only[o1W,t1T]
 split
 ·rw[Option.map_map];congr 1;funext v;simp
 ·split
  ·cases g1D P t a b<;>rfl
  ·cases g1D P t a b<;>rfl
  ·rfl
theorem j1X:∀l:List (List AV),b1V (l.map (List.map (AV.ren ρ)))=b1V l
 |[]=>rfl
 |r::l=>by
  cases r with
  |nil=>simp [b1V]
  |cons a r=>cases r with
   |nil=>cases a with
    |val v=>cases v with
     |int k n=>cases k<;>simp [b1V,j1X l]
     |_=>simp [b1V]
    |_=>simp [b1V]
   |cons b r=>simp [b1V]
theorem t1U (src dst:TypeId) (a:AV):g1d P src dst (a.ren ρ)=(g1d P src dst a).map (AV.ren ρ):=by
 cases a with
 |val v=>simp only[h1c,g1d,Option.map_map];congr 1;funext v;simp
 |slice sz rows own=>
  simp only[e1o,g1d,j1X]
  split
  ·split
   ·rfl
   ·rfl
  ·rfl
 |_=>simp [g1d]
theorem l1N (x:Option AV) (d m:Nat):bound? (x.map (AV.ren ρ)) d m=bound? x d m:=by
 cases x with
 |none=>rfl
 |some a=>cases a<;>simp [bound?]
theorem y1y (t:TypeId) (a:AV) (lo hi mx:Option AV):k1I P t (a.ren ρ) (lo.map (AV.ren ρ)) (hi.map (AV.ren ρ)) (mx.map (AV.ren ρ))=(k1I P t a lo hi mx).map (AV.ren ρ):=by
 unfold k1I
 split
 ·rename_i s hu ha
  have:a=.val (.string s):=by cases a<;>simp at ha;subst ha;rfl
  subst this
  simp only[hu,l1N]
  cases mx with
  |some m=>rfl
  |none=>
   simp only[Option.map_none]
   cases bound? hi s.size s.size with
   |none=>rfl
   |some h=>simp only;cases bound? lo 0 h<;>rfl
 ·rename_i e sz rows own hu ha
  have:∃rows',a=.slice sz rows' own∧rows=rows'.map (List.map (AV.ren ρ)):=by
   cases a with
   |slice sz' rows' own'=>simp only[e1o,AV.slice.injEq] at ha;exact⟨rows',by rw[ha.1,ha.2.2],ha.2.1.symm⟩
   |_=>simp at ha
  obtain⟨rows',rfl,rfl⟩:=this
  simp only[hu,List.map_eq_nil_iff,List.length_map,l1N]
  cases size? P e with
  |none=>rfl
  |some n=>
   simp only
   split
   ·cases mx with
    |none=>
     simp only[Option.map_none]
     cases bound? hi rows'.length rows'.length with
     |none=>rfl
     |some h=>
      simp only
      cases bound? lo 0 h with
      |none=>rfl
      |some l=>simp only[Option.map_some,e1o,List.map_take,List.map_drop]
    |some m=>
     simp only[Option.map_some]
     cases hi with
     |none=>rfl
     |some hi=>
      have h1:=l1N (ρ:=ρ) (some m) 0 rows'.length
      simp only[Option.map_some] at h1⊢
      rw[h1]
      cases bound? (some m) 0 rows'.length with
      |none=>rfl
      |some m=>
       have h2:=l1N (ρ:=ρ) (some hi) 0 m
       simp only[Option.map_some] at h2⊢
       rw[h2]
       cases bound? (some hi) 0 m with
       |none=>rfl
       |some h=>
        simp only
        cases bound? lo 0 h with
        |none=>rfl
        |some l=>simp only[Option.map_some,e1o,List.map_take,List.map_drop]
   ·rfl
 ·rename_i h1 h2
  cases hu:P.underlying t with
  |none=>rfl
  |some d=>cases d with
   |string=>cases a with
    |val v=>cases v with
     |string s=>exact absurd rfl (h1 s hu)
     |_=>rfl
    |_=>rfl
   |slice e=>cases a with
    |slice sz rows own=>exact absurd (e1o ..) (h2 e _ _ _ hu)
    |_=>rfl
   |_=>rfl
theorem q1y (t:TypeId) (a:AV) (i:Nat):g1R P t (a.ren ρ) i=(g1R P t a i).map (AV.ren ρ):=by
 unfold g1R
 split
 ·split
  ·split
   ·cases a with
    |ref cs=>
     simp only[o1S,List.length_map]
     split
     ·simp
     ·rfl
    |_=>simp
   ·rfl
  ·rfl
 ·rfl
theorem y1z (t:TypeId) (a:AV) (i:Nat):o1A P t (a.ren ρ) i=(o1A P t a i).map (AV.ren ρ):=by
 unfold o1A y1f
 cases P.underlying t with
 |none=>simp
 |some d=>
  cases d with
  |struct fs=>
   cases a with
   |agg cs=>
    simp only[o1U]
    split
    ·exact d1e _ _ _
    ·rfl
   |_=>simp
  |_=>simp
theorem q1z (t:TypeId) (a ix:AV):f1Q P t (a.ren ρ) (ix.ren ρ)=(f1Q P t a ix).map (AV.ren ρ):=by
 unfold f1Q
 cases ix with
 |val v=>
  simp only[h1c]
  cases P.underlying t with
  |none=>rfl
  |some d=>
   cases d with
   |slice e=>
    cases v with
    |int k i=>
     cases a with
     |slice sz rows own=>
      simp only[e1o]
      split
      ·rw[List.getElem?_map]
       cases rows[i.toNat]? with
       |none=>rfl
       |some r=>
        simp only[Option.map_some]
        split
        ·simp
        ·rfl
      ·rfl
     |_=>simp
    |_=>rfl
   |array len e=>
    cases v with
    |int k i=>
     simp only
     split
     ·split
      ·cases a with
       |ref cs=>
        simp only[o1S,List.length_map]
        split
        ·simp
        ·rfl
       |_=>simp
      ·rfl
     ·rfl
    |_=>rfl
   |_=>rfl
 |_=>cases P.underlying t with
  |none=>simp
  |some d=>cases d<;>simp
theorem y1A (t:TypeId) (a ix:AV):l1x P t (a.ren ρ) (ix.ren ρ)=(l1x P t a ix).map (AV.ren ρ):=by
 unfold l1x y1f
 cases P.underlying t with
 |none=>simp
 |some d=>
  cases d with
  |array len e=>
   cases a with
   |agg cs=>
    cases ix with
    |val v=>
     cases v with
     |int k i=>
      simp only[o1U,h1c]
      split
      ·split
       ·exact d1e _ _ _
       ·rfl
      ·rfl
     |_=>simp
    |_=>simp
   |_=>simp
  |string=>
   cases a with
   |val u=>
    cases u with
    |string s=>
     cases ix with
     |val v=>
      cases v with
      |int k i=>
       simp only[h1c]
       split
       ·cases s[i.toNat]?<;>rfl
       ·rfl
      |_=>simp
     |_=>simp
    |_=>simp
   |_=>simp
  |_=>simp
theorem p1a (a:AV) (t:TypeId) (ok:Bool):e1X P (a.ren ρ) t ok=(e1X P a t ok).map (AV.ren ρ):=by
 have fails:(if ok=true then match (P.info? t).bind (·.zero) with
   |some z=>some (AV.tuple [ofVal z,.val (.bool false)])
   |none=>none
  else none)=(if ok=true then match (P.info? t).bind (·.zero) with
   |some z=>some (AV.tuple [ofVal z,.val (.bool false)])
   |none=>none
  else none).map (AV.ren ρ):=by
  split
  ·split
   ·simp
   ·rfl
  ·rfl
 unfold e1X
 simp only
 split
 ·rfl
 ·rfl
 ·cases a with
  |iface u v=>
   simp only[t1Q]
   split
   ·split<;>simp
   ·exact fails
  |val v=>cases v<;>simp only[h1c]<;>first|rfl|exact fails
  |_=>simp
theorem e2o (t:TypeId) (a:AV):alen P t (a.ren ρ)=(alen P t a).map (AV.ren ρ):=by
 unfold alen
 cases P.underlying t with
 |none=>simp
 |some d=>cases d with
  |slice e=>cases a<;>simp
  |string=>cases a with
   |val v=>cases v<;>simp
   |_=>simp
  |_=>simp
theorem v1L (b:AV):f1s (b.ren ρ)=(f1s b).map fun p=>(p.1,p.2.map (List.map (AV.ren ρ))):=by
 cases b with
 |val v=>
  cases v with
  |string s=>
   simp only[h1c,f1s,Option.map_some,Option.some.injEq,Prod.mk.injEq,List.map_map,true_and]
   exact List.map_congr_left fun a _=>rfl
  |_=>simp [f1s]
 |_=>simp [f1s]
theorem v1M (ts:Array TypeId) (a b:AV):f1R P ts (a.ren ρ) (b.ren ρ)=(f1R P ts a b).map (AV.ren ρ):=by
 unfold f1R
 cases ts[0]? with
 |none=>rfl
 |some st=>cases ts[1]? with
  |none=>rfl
  |some xt=>
   simp only
   cases P.underlying st with
   |none=>rfl
   |some d=>cases d with
    |slice e=>
     cases P.underlying xt with
     |none=>rfl
     |some xd=>
      cases xd with
      |int=>rfl
      |_=>
       simp only[v1L]
       cases a with
       |slice sz rows own=>
        cases f1s b with
        |none=>simp
        |some p=>
         obtain⟨sz',new⟩:=p
         cases P.info? e with
         |none=>simp
         |some i=>
          simp only[e1o,Option.map_some,List.map_eq_nil_iff,List.length_map]
          split
          ·simp
          ·split
           ·simp only[Option.map_some,e1o,List.map_append,List.map_map,Option.some.injEq,AV.slice.injEq,true_and,and_true,List.append_cancel_left_eq]
            exact List.map_congr_left fun r _=>(e1p r).symm
           ·rfl
       |_=>simp
    |_=>rfl
theorem q1A (t:TypeId) (l c:AV):f1a P t (l.ren ρ) (c.ren ρ)=(f1a P t l c).map (AV.ren ρ):=by
 unfold f1a
 cases P.underlying t with
 |none=>simp
 |some d=>cases d with
  |slice e=>
   cases l with
   |val v=>cases v with
    |int k l=>cases c with
     |val v=>cases v with
      |int k c=>
       simp only[h1c]
       split
       ·split
        ·split
         ·simp only[Option.map_some,e1o,List.map_replicate,j1d]
         ·rfl
        ·rfl
       ·rfl
      |_=>simp
     |_=>simp
    |_=>simp
   |_=>simp
  |_=>simp
theorem p1b:∀l:List AV,g1w (l.map (AV.ren ρ))=g1w l
 |[]=>rfl
 |a::l=>by simp only[List.map_cons,g1w,o1W,p1b l]
theorem t1V (o:Oper) (b:Builtin) (ts:Array TypeId) (vs:List AV):g1e P o b ts (vs.map (AV.ren ρ))=(g1e P o b ts vs).map (AV.ren ρ):=by
 have maxmin:∀(g:Array Value→Sem Value) (vs:List AV),(match g1w (vs.map (AV.ren ρ)) with
   |some l=>(g1A P (g l.toArray)).map ofVal
   |none=>none)=(match g1w vs with
   |some l=>(g1A P (g l.toArray)).map ofVal
   |none=>none).map (AV.ren ρ):=by
  intro g vs
  rw[p1b]
  cases g1w vs with
  |none=>rfl
  |some l=>simp only[Option.map_map];congr 1;funext v;simp
 cases b with
 |len=>
  match vs with
  |[x]=>
   simp only[List.map_cons,List.map_nil,g1e]
   cases ts[0]? with
   |none=>rfl
   |some t=>exact e2o t x
  |[]=>rfl
  |_::_::_=>rfl
 |append=>
  match vs with
  |[x,y]=>simp only[List.map_cons,List.map_nil,g1e];exact v1M ts x y
  |[]=>rfl
  |[_]=>rfl
  |_::_::_::_=>rfl
 |max=>simp only[g1e];exact maxmin (fun l=>Builtin.max_ ts o.type l) vs
 |min=>simp only[g1e];exact maxmin (fun l=>Builtin.min_ ts o.type l) vs
 |_=>rfl
theorem y1B (t:TypeId) (ps:List (Nat×AV)):q1W P t (renP ρ ps)=(q1W P t ps).map (AV.ren ρ):=by
 have key:∀z,zeroCells P t=some z→(l1w P t z (renP ρ ps)).map AV.agg=((l1w P t z ps).map AV.agg).map (AV.ren ρ):=by
  intro z hz
  have h:=l1M (P:=P) (ρ:=ρ) (t:=t)
  rw[hz] at h
  simp only[Option.map_some,Option.some.injEq] at h
  have:=o1Y (P:=P) (ρ:=ρ) t ps z
  rw[h] at this
  rw[this]
  cases l1w P t z ps<;>simp
 unfold q1W
 split
 ·split
  ·split
   ·rename_i z hz;exact key z hz
   ·rfl
  ·rfl
 ·split
  ·rename_i z _ hz _;exact key z hz
  ·rfl
 ·rfl
theorem t1W (t:TypeId) (v:AV):(a1D P t v).ren ρ=a1D P t (v.ren ρ):=by
 cases v with
 |slice sz rows own=>
  unfold a1D
  simp only[AV.ren]
  split
  ·split
   ·split
    ·rfl
    ·cases rows with
     |nil=>rfl
     |cons r l=>rfl
   ·rfl
  ·rfl
 |_=>rfl
theorem k1s:∀(ts:List TypeId) (vs:List AV),rens ρ (h1D P ts vs)=h1D P ts (rens ρ vs)
 |[],vs=>by unfold h1D;rfl
 |t::ts,[]=>rfl
 |t::ts,v::vs=>by simp only[h1D,rens,t1W,k1s ts vs]
theorem v1N (e:TypeId) (r:List AV):rens ρ (e1Y P e r)=e1Y P e (rens ρ r):=by
 unfold e1Y
 split
 ·split
  ·exact k1s _ _
  ·rfl
 ·exact k1s _ _
theorem n1t (e:TypeId):∀rows:List (List AV),k1F ρ (rows.map (e1Y P e))=(k1F ρ rows).map (e1Y P e)
 |[]=>rfl
 |r::rows=>by simp only[List.map_cons,k1F,v1N,n1t e rows]
theorem p1c (t:TypeId) (n:Nat) (ps:List (Nat×AV)):f1S P t n (renP ρ ps)=(f1S P t n ps).map (AV.ren ρ):=by
 unfold f1S
 split
 ·split
  ·split
   ·split
    ·rename_i i _ z _ _
     have h:=o1Y (P:=P) (ρ:=ρ) t ps (f1P (z.cells.toList.map ofCell) n)
     rw[o1Z _ _ (j1d _)] at h
     rw[h]
     cases l1w P t (f1P (z.cells.toList.map ofCell) n) ps with
     |none=>rfl
     |some cs=>
      simp only[Option.map_some,e1o,r1h]
      have key:∀(e:TypeId) (X:List (List AV)),(X.map (List.map (AV.ren ρ))).map (e1Y P e)=(X.map (e1Y P e)).map (List.map (AV.ren ρ)):=fun e X=>by
       have h2:=n1t (P:=P) (ρ:=ρ) e X
       rw[l1K,l1K] at h2
       exact h2.symm
      rw[key]
    ·rfl
   ·rfl
  ·rfl
 ·rfl
theorem r1W (a:AV):g1V (a.ren ρ)=(g1V a).map (AV.ren ρ):=by
 cases a with
 |func fn a b=>cases fn<;>simp [g1V]
 |_=>simp [g1V]
theorem l1O (t:TypeId) (a:AV):e1h P t (a.ren ρ)=(e1h P t a).map (AV.ren ρ):=by
 unfold e1h
 split
 ·rfl
 ·rfl
 ·simp only[r1U]
  split
  ·rfl
  ·simp
theorem t1X (v:AV) (i:Nat):g1f (v.ren ρ) i=(g1f v i).map (AV.ren ρ):=by
 cases v with
 |tuple vs=>
  simp only[o1V,g1f,List.getElem?_map]
  cases vs[i]?<;>simp
 |val v=>cases v with
  |tuple vs=>
   simp only[h1c,g1f]
   cases vs[i]?<;>simp
  |_=>simp [g1f]
 |_=>simp [g1f]
theorem h1H (o:Oper) (vs:List AV):c1D P o (vs.map (AV.ren ρ))=(c1D P o vs).map (List.map (AV.ren ρ)):=by
 unfold c1D
 cases o.op with
 |alloc e=>
  cases vs with
  |nil=>simp only[List.map_nil];exact l1M.symm
  |cons a vs=>rfl
 |box t x=>
  match vs with
  |[v]=>simp only[List.map_cons,List.map_nil];exact e1i v
  |[]=>rfl
  |_::_::_=>rfl
 |_=>rfl
end
end
end Go.Eng
end

section
/-
  THE ENGINE, part 26: pointers under other names: what a function does in a heap it does in a greater one, whatever lies beside.
-/
set_option linter.unusedVariables false
set_option linter.unusedSimpArgs false
namespace Go.Eng
structure Fr (ρ:Nat→Nat) (n N:Nat) (F:Heap):Prop where
 lo:∀i,i<n→ρ i<N
 hi:∀i,n≤i→ρ i=i-n+N
 inj:∀i j,i<n→j<n→ρ i=ρ j→i=j
 low:∀j cs,F[j]? =some cs→j<N→(∀i,i<n→ρ i≠j)→lows N cs=true
structure HR (ρ:Nat→Nat) (n N:Nat) (F H K:Heap):Prop where
 le:n≤H.length
 len:K.length=H.length-n+N
 im:∀i,K[ρ i]? =(H[i]?).map (List.map (AV.ren ρ))
 off:∀j,j<N→(∀i,i<n→ρ i≠j)→K[j]? =F[j]?
section
variable {ρ:Nat→Nat} {n N:Nat} {F:Heap}
theorem Fr.inj' (h:Fr ρ n N F) {i j:Nat} (e:ρ i=ρ j):i=j:=by
 rcases Nat.lt_or_ge i n with hi|hi
 ·rcases Nat.lt_or_ge j n with hj|hj
  ·exact h.inj i j hi hj e
  ·have:=h.lo i hi;have:=h.hi j hj;omega
 ·rcases Nat.lt_or_ge j n with hj|hj
  ·have:=h.lo j hj;have:=h.hi i hi;omega
  ·have:=h.hi i hi;have:=h.hi j hj;omega
theorem HR.set (hf:Fr ρ n N F) {H K:Heap} (h:HR ρ n N F H K) (id:Nat) (cs:List AV):HR ρ n N F (H.set id cs) (K.set (ρ id) (cs.map (AV.ren ρ))):=by
 refine⟨by simpa using h.le,by simpa using h.len,?_,?_⟩
 ·intro i
  simp only[List.getElem?_set]
  by_cases e:id=i
  ·subst e
   simp only[if_true]
   have h1:=h.im id
   by_cases hl:id<H.length
   ·rw[if_pos hl,if_pos]
    ·rfl
    ·rw[List.getElem?_eq_getElem hl] at h1
     exact(List.getElem?_eq_some_iff.1 h1).1
   ·rw[if_neg hl,if_neg]
    ·rfl
    ·have h2:H[id]? =none:=List.getElem?_eq_none (Nat.not_lt.1 hl)
     rw[h2] at h1
     exact Nat.not_lt.2 (List.getElem?_eq_none_iff.1 h1)
  ·rw[if_neg (fun h=>e (hf.inj' h)),if_neg e]
   exact h.im i
 ·intro j hj hn
  rw[List.getElem?_set]
  by_cases e:ρ id=j
  ·by_cases hid:id<n
   ·exact absurd e (hn id hid)
   ·have:=hf.hi id (by omega);omega
  ·rw[if_neg e];exact h.off j hj hn
theorem HR.push (hf:Fr ρ n N F) {H K:Heap} (h:HR ρ n N F H K) (cs:List AV):HR ρ n N F (H++[cs]) (K++[cs.map (AV.ren ρ)])∧ρ H.length=K.length:=by
 have e:ρ H.length=K.length:=by rw[hf.hi _ h.le,h.len]
 refine⟨⟨by have:=h.le;simp;omega,by have:=h.len;have:=h.le;simp;omega,?_,?_⟩,e⟩
 ·intro i
  rcases Nat.lt_trichotomy i H.length with hi|hi|hi
  ·have:ρ i<K.length:=by
    have h1:=h.im i
    rw[List.getElem?_eq_getElem hi] at h1
    exact(List.getElem?_eq_some_iff.1 h1).1
   rw[List.getElem?_append_left this,List.getElem?_append_left hi];exact h.im i
  ·subst hi
   rw[e];simp
  ·have h1:=hf.hi i (by have:=h.le;omega)
   have h2:=h.len
   have h3:=h.le
   rw[List.getElem?_eq_none (by simp;omega),List.getElem?_eq_none (by simp;omega)];rfl
 ·intro j hj hn
  have:=h.len;have:=h.le
  rw[List.getElem?_append_left (by omega)];exact h.off j hj hn
def h1y (ρ:Nat→Nat):RM→RM
 | .none=>.none
 | .returning=>.returning
 | .panicking v r=>.panicking (v.ren ρ) r
def g1B (ρ:Nat→Nat):Out→Out
 | .ret v=>.ret (v.ren ρ)
 | .panic v=>.panic (v.ren ρ)
def renD (ρ:Nat→Nat) (d:ADef):ADef:=⟨d.f,d.args.map (AV.ren ρ)⟩
def renL (ρ:Nat→Nat) (c:LCell):LCell:=(c.1,c.2.map (AV.ren ρ))
structure GRl (ρ:Nat→Nat) (n N:Nat) (F:Heap) (g g':G):Prop where
 H:HR ρ n N F g.H g'.H
 df:g'.defers=g.defers.map (renD ρ)
 rm:g'.rm=h1y ρ g.rm
 bs:n≤g.base∧g'.base=g.base-n+N
structure SRl (ρ:Nat→Nat) (n N:Nat) (F:Heap) (s s':St):Prop where
 t:s'.tmps=s.tmps.map (AV.ren ρ)
 l:s'.lh=s.lh.map (Option.map (renL ρ))
 g:GRl ρ n N F s.g s'.g
structure RRl (ρ:Nat→Nat) (n N:Nat) (F:Heap) (r r':CRes):Prop where
 o:r'.out=g1B ρ r.out
 rm:r'.rm=h1y ρ r.rm
 H:HR ρ n N F r.H r'.H
def k1W (ρ:Nat→Nat) (n N:Nat) (F:Heap) (call:CallF):Prop:=
 ∀f args rm H r,call f args rm H=some r→∀K,HR ρ n N F H K→∃r',call f (args.map (AV.ren ρ)) (h1y ρ rm) K=some r'∧RRl ρ n N F r r'
variable {P:Program} {cfg:FuncId→FCfg} {call:CallF}
theorem g1o (s:List AV):∀(xs:List Operand) (ms:List Bool),vals (s.map (AV.ren ρ)) xs ms=(vals s xs ms).map (AV.ren ρ)
 |[],ms=>by cases ms<;>rfl
 |x::r,[]=>by simp only[vals,List.map_cons,o1X,m1C,g1o s r]
 |x::r,b::bs=>by cases b<;>simp [vals,o1X,g1o s r]
theorem y1C (s:List AV) (t:Nat):(s.map (AV.ren ρ)).modify t AV.dis=(s.modify t AV.dis).map (AV.ren ρ):=by
 apply List.ext_getElem?
 intro i
 simp only[List.getElem?_modify,List.getElem?_map]
 cases s[i]? with
 |none=>rfl
 |some a=>
  simp only[Option.map_some,Option.some.injEq]
  split<;>simp
theorem l1P:∀(xs:List Operand) (ms:List Bool) (s:List AV),disT (s.map (AV.ren ρ)) xs ms=(disT s xs ms).map (AV.ren ρ)
 |[],ms,s=>by cases ms<;>rfl
 |x::r,[],s=>by cases x<;>rfl
 |x::r,b::bs,s=>by
  cases x with
  |tmp t=>cases b with
   |true=>simp only[disT,y1C];exact l1P r bs _
   |false=>simp only[disT];exact l1P r bs _
  |_=>cases b<;>(simp only[disT];exact l1P r bs _)
theorem l1Q (f:FuncId) (o:Oper) (vs:List AV):acls cfg f o (vs.map (AV.ren ρ))=acls cfg f o vs:=by
 unfold acls
 cases o.op with
 |load t x=>
  match vs with
  |[]=>rfl
  |[a]=>cases a<;>simp
  |a::_::_=>cases a<;>simp
 |store t x y=>
  match vs with
  |[]=>rfl
  |a::_=>cases a<;>simp
 |_=>rfl
theorem b2f (o:Oper) (vs:List AV):j1P P o (vs.map (AV.ren ρ))=(j1P P o vs).map (AV.ren ρ):=by
 unfold j1P
 cases ho:o.op with
 |move x=>match vs with
  |[]=>rfl
  |[a]=>rfl
  |_::_::_=>rfl
 |assign x=>match vs with
  |[]=>rfl
  |[a]=>rfl
  |_::_::_=>rfl
 |pick c a b=>match vs with
  |[c,a,b]=>
   cases c with
   |val v=>cases v with
    |bool b=>cases b<;>rfl
    |_=>rfl
   |_=>simp
  |[]=>rfl
  |[_]=>rfl
  |[_,_]=>rfl
  |_::_::_::_::_=>rfl
 |alloc e=>
  simp only[h1H]
  cases c1D P o vs<;>simp
 |box e v=>
  simp only[h1H]
  cases c1D P o vs<;>simp
 |build t ps=>
  simp only[h1d]
  split
  ·rfl
  ·rw[j1W];exact y1B _ _
 |buildSlice t m ps=>
  simp only[h1d]
  split
  ·rfl
  ·rw[j1W];exact p1c _ _ _
 |load t x=>match vs with
  |[a]=>cases a with
   |ref cs=>simp only[List.map_cons,List.map_nil,o1S];exact d1e _ _ _
   |_=>simp
  |[]=>rfl
  |a::_::_=>cases a<;>simp
 |nilCheck x=>match vs with
  |[a]=>exact r1W a
  |[]=>rfl
  |_::_::_=>rfl
 |binOp op t x y=>match vs with
  |[a,b]=>exact e2n ..
  |[]=>rfl
  |[_]=>rfl
  |_::_::_::_=>rfl
 |unOp op t x=>match vs with
  |[a]=>
   simp only[List.map_cons,List.map_nil,o1W]
   cases a.toVal with
   |none=>rfl
   |some w=>simp only[Option.map_map];congr 1;funext v;simp
  |[]=>rfl
  |_::_::_=>rfl
 |convert a b x=>match vs with
  |[v]=>exact t1U ..
  |[]=>rfl
  |_::_::_=>rfl
 |makeInterface t x=>match vs with
  |[v]=>exact l1O ..
  |[]=>rfl
  |_::_::_=>rfl
 |makeFunc fn a b=>
  simp only[h1d]
  split
  ·rfl
  ·simp only[Option.map_some,l1L,List.map_take,List.map_drop]
 |makeSlice t l c=>match vs with
  |[a,b]=>exact q1A ..
  |[]=>rfl
  |[_]=>rfl
  |_::_::_::_=>rfl
 |slice t x l h m=>match vs with
  |[]=>rfl
  |y::r=>
   simp only[List.map_cons]
   have e1:(if l.isSome=true then (r.map (AV.ren ρ)).head? else none)=(if l.isSome=true then r.head? else none).map (AV.ren ρ):=by split<;>simp
   have e2:(if l.isSome=true then (r.map (AV.ren ρ)).tail else r.map (AV.ren ρ))=(if l.isSome=true then r.tail else r).map (AV.ren ρ):=by split<;>simp
   rw[e1,e2]
   generalize (if l.isSome=true then r.tail else r)=r1
   generalize (if l.isSome=true then r.head? else none)=lo
   have e3:(if h.isSome=true then (r1.map (AV.ren ρ)).head? else none)=(if h.isSome=true then r1.head? else none).map (AV.ren ρ):=by split<;>simp
   have e4:(if h.isSome=true then (r1.map (AV.ren ρ)).tail else r1.map (AV.ren ρ))=(if h.isSome=true then r1.tail else r1).map (AV.ren ρ):=by split<;>simp
   rw[e3,e4]
   generalize (if h.isSome=true then r1.tail else r1)=r2
   generalize (if h.isSome=true then r1.head? else none)=hi
   have e5:(if m.isSome=true then (r2.map (AV.ren ρ)).head? else none)=(if m.isSome=true then r2.head? else none).map (AV.ren ρ):=by split<;>simp
   rw[e5]
   generalize (if m.isSome=true then r2.head? else none)=mx
   have e6:(AV.ren ρ y::r.map (AV.ren ρ)).any AV.isLp=(y::r).any AV.isLp:=h1d (y::r)
   simp only[Option.isSome_map,e6]
   split
   ·exact y1y _ _ _ _ _
   ·rfl
 |fieldAddr t x i=>match vs with
  |[a]=>exact q1y ..
  |[]=>rfl
  |_::_::_=>rfl
 |field t x i=>match vs with
  |[a]=>exact y1z ..
  |[]=>rfl
  |_::_::_=>rfl
 |indexAddr t x y=>match vs with
  |[a,b]=>exact q1z ..
  |[]=>rfl
  |[_]=>rfl
  |_::_::_::_=>rfl
 |index t x y=>match vs with
  |[a,b]=>exact y1A ..
  |[]=>rfl
  |[_]=>rfl
  |_::_::_::_=>rfl
 |typeAssert x a t ok=>match vs with
  |[v]=>exact p1a ..
  |[]=>rfl
  |_::_::_=>rfl
 |extract x i=>match vs with
  |[v]=>exact t1X ..
  |[]=>rfl
  |_::_::_=>rfl
 |call c=>
  simp only
  cases c.callee with
  |builtin b=>exact t1V ..
  |_=>rfl
 |_=>simp
theorem e2p (f:FuncId) (o:Oper) (vs:List AV) (c:Option LCell):
  aloc P cfg f o (vs.map (AV.ren ρ)) (c.map (renL ρ))=(aloc P cfg f o vs c).map fun (p:AV×Option LCell)=>(p.1.ren ρ,p.2.map (renL ρ)):=by
 have new:(match o.dst,c1D P o (vs.map (AV.ren ρ)) with
   |some t,some cs=>match c.map (renL ρ) with
    |none=>some (AV.lp t 0 0,some (0,cs))
    |some (g,_)=>some (.lp t (g+1) 0,some (g+1,cs))
   |_,_=>none)=(match o.dst,c1D P o vs with
   |some t,some cs=>match c with
    |none=>some (AV.lp t 0 0,some (0,cs))
    |some (g,_)=>some (.lp t (g+1) 0,some (g+1,cs))
   |_,_=>none).map fun (p:AV×Option LCell)=>(p.1.ren ρ,p.2.map (renL ρ)):=by
  rw[h1H]
  cases o.dst with
  |none=>rfl
  |some t=>cases c1D P o vs with
   |none=>rfl
   |some cs=>cases c with
    |none=>rfl
    |some c=>rfl
 unfold aloc
 cases o.op with
 |alloc e=>exact new
 |box e v=>exact new
 |load t x=>match vs with
  |[a]=>cases a with
   |lp l g off=>
    cases c with
    |none=>rfl
    |some c=>
     obtain⟨g',cs⟩:=c
     simp only[List.map_cons,List.map_nil,x1q,Option.map_some,renL]
     split
     ·split
      ·rw[List.getElem?_map]
       cases isAgg? P t with
       |none=>rfl
       |some b=>cases b with
        |true=>rfl
        |false=>cases cs[off]? with
         |none=>rfl
         |some v=>simp only[Option.map_some,renL,List.map_set,m1C]
      ·rw[d1e]
       cases c1M P t cs off<;>rfl
     ·rfl
   |_=>simp
  |[]=>rfl
  |a::_::_=>cases a<;>simp
 |store t x y=>match vs with
  |[a,v]=>cases a with
   |lp l g off=>
    cases c with
    |none=>rfl
    |some c=>
     obtain⟨g',cs⟩:=c
     simp only[List.map_cons,List.map_nil,x1q,Option.map_some,renL,r1f]
     cases v.scells with
     |none=>rfl
     |some new=>
      simp only[Option.map_some]
      cases size? P t with
      |none=>rfl
      |some m=>
       simp only[List.length_map]
       split
       ·simp only[Option.map_some,g1i,h1c,renL]
       ·rfl
   |_=>simp
  |[]=>rfl
  |[a]=>cases a<;>simp
  |a::_::_::_=>cases a<;>simp
 |_=>simp
inductive GRR (ρ:Nat→Nat) (n N:Nat) (F:Heap):GR→GR→Prop
 |val (v:AV) {g g':G}:GRl ρ n N F g g'→GRR ρ n N F (.val v g) (.val (v.ren ρ) g')
 |panic (v:AV) {g g':G}:GRl ρ n N F g g'→GRR ρ n N F (.panic v g) (.panic (v.ren ρ) g')
theorem y1D (hc:k1W ρ n N F call) {g:FuncId} {args:List AV} {m m':G} {r:GR} (h:g1W call g args m=some r) (hm:GRl ρ n N F m m'):
  ∃r',g1W call g (args.map (AV.ren ρ)) m'=some r'∧GRR ρ n N F r r':=by
 unfold g1W at *
 rw[h1d]
 split at h
 ·cases h
 ·rename_i hl
  rw[if_neg hl]
  split at h
  ·rename_i v rm H e
   simp only[Option.some.injEq] at h;subst h
   obtain⟨⟨o,rm',K⟩,e',h1,h2,h3⟩:=hc _ _ _ _ _ e _ hm.H
   simp only[g1B] at h1;subst h1
   simp only[h1y] at e'
   exact⟨.val (v.ren ρ) {m' with H:=K},by rw[e'],.val v ⟨h3,hm.df,hm.rm,hm.bs⟩⟩
  ·rename_i v rm H e
   simp only[Option.some.injEq] at h;subst h
   obtain⟨⟨o,rm',K⟩,e',h1,h2,h3⟩:=hc _ _ _ _ _ e _ hm.H
   simp only[g1B] at h1;subst h1
   simp only[h1y] at e'
   exact⟨.panic (v.ren ρ) {m' with H:=K},by rw[e'],.panic v ⟨h3,hm.df,hm.rm,hm.bs⟩⟩
  ·cases h
theorem b2g (hf:Fr ρ n N F) (hc:k1W ρ n N F call) {f:FuncId} {o:Oper} {vs:List AV} {m m':G} {r:GR} (h:f1T P cfg call f o vs m=some r) (hm:GRl ρ n N F m m'):
  ∃r',f1T P cfg call f o (vs.map (AV.ren ρ)) m'=some r'∧GRR ρ n N F r r':=by
 have new:∀r,(match c1D P o vs with
   |some cs=>some (GR.val (.ptr m.H.length 0) {m with H:=m.H++[cs]})
   |none=>none)=some r→∃r',(match c1D P o (vs.map (AV.ren ρ)) with
   |some cs=>some (GR.val (.ptr m'.H.length 0) {m' with H:=m'.H++[cs]})
   |none=>none)=some r'∧GRR ρ n N F r r':=by
  intro r h
  rw[h1H]
  cases hn:c1D P o vs with
  |none=>rw[hn] at h;cases h
  |some cs=>
   rw[hn] at h
   simp only[Option.some.injEq] at h;subst h
   obtain⟨h1,h2⟩:=hm.H.push hf cs
   have:=GRR.val (ρ:=ρ) (n:=n) (N:=N) (F:=F) (.ptr m.H.length 0) (g:={m with H:=m.H++[cs]}) (g':={m' with H:=m'.H++[cs.map (AV.ren ρ)]}) ⟨h1,hm.df,hm.rm,hm.bs⟩
   rw[o1T,h2] at this
   exact⟨_,rfl,this⟩
 unfold f1T at h⊢
 cases ho:o.op with
 |alloc e=>simp only[ho] at h⊢;exact new r h
 |box e v=>simp only[ho] at h⊢;exact new r h
 |load t x=>
  simp only[ho] at h⊢
  match vs with
  |[]=>simp at h
  |[a]=>
   cases a with
   |ptr id off=>
    simp only[List.map_cons,List.map_nil,o1T,hm.H.im] at h⊢
    cases hH:m.H[id]? with
    |none=>rw[hH] at h;cases h
    |some cs=>
     rw[hH] at h
     simp only[Option.map_some] at h⊢
     split at h
     ·rename_i hd
      rw[if_pos hd]
      rw[List.getElem?_map]
      cases hag:isAgg? P t with
      |none=>rw[hag] at h;cases h
      |some b=>cases b with
       |true=>rw[hag] at h;cases h
       |false=>
        rw[hag] at h
        cases hcs:cs[off]? with
        |none=>rw[hcs] at h;cases h
        |some v=>
         rw[hcs] at h
         simp only[Option.some.injEq] at h;subst h
         refine⟨_,rfl,.val v ⟨?_,hm.df,hm.rm,hm.bs⟩⟩
         have:=hm.H.set hf id (cs.set off v.dis)
         rwa [List.map_set,m1C] at this
     ·rename_i hd
      rw[if_neg hd,d1e]
      cases hrc:c1M P t cs off with
      |none=>rw[hrc] at h;cases h
      |some v=>
       rw[hrc] at h
       simp only[Option.map_some,Option.some.injEq] at h;subst h
       exact⟨_,rfl,.val v hm⟩
   |_=>simp at h
  |a::_::_=>cases a<;>simp at h
 |store t x y=>
  simp only[ho] at h⊢
  match vs with
  |[]=>simp at h
  |[a]=>cases a<;>simp at h
  |[a,v]=>
   cases a with
   |ptr id off=>
    simp only[List.map_cons,List.map_nil,o1T,hm.H.im,r1f] at h⊢
    cases hH:m.H[id]? with
    |none=>rw[hH] at h;cases h
    |some cs=>
     rw[hH] at h
     cases hsc:v.scells with
     |none=>rw[hsc] at h;cases h
     |some new=>
      rw[hsc] at h
      cases hsz:size? P t with
      |none=>rw[hsz] at h;cases h
      |some k=>
       rw[hsz] at h
       simp only[Option.map_some,List.length_map] at h⊢
       split at h
       ·rename_i hcond
        rw[if_pos hcond]
        simp only[Option.some.injEq] at h;subst h
        refine⟨_,rfl,.val (.val undef) ⟨?_,hm.df,hm.rm,hm.bs⟩⟩
        have:=hm.H.set hf id (b1M cs off new)
        rwa [←g1i] at this
       ·cases h
   |_=>simp at h
  |a::_::_::_=>cases a<;>simp at h
 |call c=>
  simp only[ho] at h⊢
  cases hcl:c.callee with
  |builtin b=>
   rw[hcl] at h
   cases b with
   |recover=>
    simp only[List.map_eq_nil_iff] at h⊢
    split at h
    ·rename_i hv
     rw[if_pos hv]
     unfold h1E at h⊢
     rw[hm.rm]
     split at h
     ·cases h
     ·rename_i e
      simp only[Option.some.injEq] at h;subst h
      rw[e]
      exact⟨_,rfl,.val (.val .nilIface) hm⟩
     ·rename_i v e
      simp only[Option.some.injEq] at h;subst h
      rw[e]
      simp only[h1y]
      refine⟨_,rfl,?_⟩
      have:=GRR.val (ρ:=ρ) (n:=n) (N:=N) (F:=F) v.dis (g:={m with rm:=.panicking v true}) (g':={m' with rm:=.panicking (v.ren ρ) true}) ⟨hm.H,hm.df,rfl,hm.bs⟩
      rwa [m1C] at this
     ·rename_i v e
      simp only[Option.some.injEq] at h;subst h
      rw[e]
      exact⟨_,rfl,.val (.val .nilIface) hm⟩
    ·cases h
   |_=>simp at h
  |value x=>
   rw[hcl] at h
   simp only at h⊢
   match vs with
   |[]=>simp at h
   |a::args=>
    cases a with
    |func fn first captured=>
     cases fn with
     |func g=>
      simp only[List.map_cons,l1L] at h⊢
      have:=y1D hc h hm
      simp only[List.map_append,e1p] at this
      exact this
     |_=>simp at h
    |_=>simp at h
  |invoke _ _=>rw[hcl] at h;simp at h
 |defer c=>
  simp only[ho] at h⊢
  cases hcl:c.callee with
  |value x=>
   rw[hcl] at h
   simp only at h⊢
   match vs with
   |[]=>simp at h
   |a::args=>
    cases a with
    |func fn first captured=>
     cases fn with
     |func g=>
      simp only[List.map_cons,l1L] at h⊢
      have e:(first.map (AV.ren ρ)++args.map (AV.ren ρ)++captured.map (AV.ren ρ))=(first++args++captured).map (AV.ren ρ):=by simp
      rw[e,h1d]
      split at h
      ·cases h
      ·rename_i hl
       rw[if_neg hl]
       simp only[Option.some.injEq] at h;subst h
       refine⟨_,rfl,.val (.val undef) ⟨hm.H,?_,hm.rm,hm.bs⟩⟩
       simp only[List.map_cons,renD,hm.df,e1p]
     |_=>simp at h
    |_=>simp at h
  |_=>rw[hcl] at h;simp at h
 |panic x=>
  simp only[ho] at h⊢
  match vs with
  |[]=>simp at h
  |[a]=>
   cases a with
   |iface t v=>
    simp only[Option.some.injEq] at h;subst h
    exact⟨_,rfl,.panic (.iface t v) hm⟩
   |_=>simp at h
  |a::_::_=>cases a<;>simp at h
 |_=>simp only[ho] at h;simp at h
inductive SRR (ρ:Nat→Nat) (n N:Nat) (F:Heap):SR→SR→Prop
 |next {s s':St}:SRl ρ n N F s s'→SRR ρ n N F (.next s) (.next s')
 |panic (v:AV) {s s':St}:SRl ρ n N F s s'→SRR ρ n N F (.panic v s) (.panic (v.ren ρ) s')
theorem l1R (s:List AV) (d:Option Tmp) (v:AV):putT (s.map (AV.ren ρ)) d (v.ren ρ)=(putT s d v).map (AV.ren ρ):=by
 cases d with
 |none=>rfl
 |some t=>simp only[putT,List.map_set]
theorem g2W (hf:Fr ρ n N F) (hc:k1W ρ n N F call) {f:FuncId} {o:Oper} {s s':St} {r:SR} (h:aop P cfg call f o s=some r) (hs:SRl ρ n N F s s'):
  ∃r',aop P cfg call f o s'=some r'∧SRR ρ n N F r r':=by
 unfold aop at h⊢
 simp only[hs.t,hs.l,g1o,l1P,l1Q] at h⊢
 split at h
 ·rename_i hn
  rw[if_pos hn]
  split at h
  ·rename_i ecl
   simp only[ecl,b2f]
   cases hp:j1P P o (vals s.tmps o.op.operands.toList (b1v cfg f o)) with
   |none=>rw[hp] at h;cases h
   |some v=>
    rw[hp] at h
    simp only[Option.some.injEq] at h;subst h
    exact⟨_,rfl,.next ⟨l1R ..,rfl,hs.g⟩⟩
  ·rename_i l b ecl
   simp only[ecl,List.getElem?_map]
   cases hl:s.lh[l]? with
   |none=>rw[hl] at h;cases h
   |some c=>
    rw[hl] at h
    simp only[Option.map_some,e2p] at h⊢
    cases hp:aloc P cfg f o (vals s.tmps o.op.operands.toList (b1v cfg f o)) c with
    |none=>rw[hp] at h;cases h
    |some p=>
     obtain⟨v,c'⟩:=p
     rw[hp] at h
     simp only[Option.some.injEq] at h;subst h
     exact⟨_,rfl,.next ⟨l1R ..,by simp only[List.map_set],hs.g⟩⟩
  ·rename_i b ecl
   try simp only[ecl]
   cases hp:f1T P cfg call f o (vals s.tmps o.op.operands.toList (b1v cfg f o)) s.g with
   |none=>rw[hp] at h;cases h
   |some r0=>
    obtain⟨r',h1,h2⟩:=b2g hf hc hp hs.g
    rw[hp] at h
    rw[h1]
    cases h2 with
    |val v hg=>simp only[Option.some.injEq] at h;subst h;exact⟨_,rfl,.next ⟨l1R ..,rfl,hg⟩⟩
    |panic v hg=>simp only[Option.some.injEq] at h;subst h;exact⟨_,rfl,.panic v ⟨rfl,rfl,hg⟩⟩
 ·cases h
theorem h1e (ops:Array Oper) (o:Oper) (ts:List AV):e1n ops o (ts.map (AV.ren ρ))=e1n ops o ts:=by
 unfold e1n
 split
 ·rfl
 ·split
  ·rfl
  ·rename_i t _
   rw[List.getElem?_map]
   cases ts[t]? with
   |none=>rfl
   |some v=>cases v with
    |val u=>cases u<;>rfl
    |_=>simp
theorem p1d (hf:Fr ρ n N F) (hc:k1W ρ n N F call) {f:FuncId} {ops:Array Oper} {o:Oper} {s s':St} {r:SR} (h:d1p P cfg call f ops o s=some r) (hs:SRl ρ n N F s s'):
  ∃r',d1p P cfg call f ops o s'=some r'∧SRR ρ n N F r r':=by
 unfold d1p at h⊢
 rw[hs.t,h1e]
 split at h
 ·exact g2W hf hc h hs
 ·simp only[Option.some.injEq] at h;subst h
  exact⟨_,rfl,.next ⟨l1R (ρ:=ρ) s.tmps o.dst (.val undef),hs.l,hs.g⟩⟩
 ·cases h
def renX (ρ:Nat→Nat):AX→AX
 | .panic v=>.panic (v.ren ρ)
 |x=>x
theorem r1X (hf:Fr ρ n N F) (hc:k1W ρ n N F call) {f:FuncId} {ops:Array Oper}:∀{l:List Nat} {s s':St} {x:AX} {s1:St},aops P cfg call f ops l s=some (x,s1)→SRl ρ n N F s s'→
  ∃s1',aops P cfg call f ops l s'=some (renX ρ x,s1')∧SRl ρ n N F s1 s1':=by
 intro l
 induction l with
 |nil=>
  intro s s' x s1 h hs
  simp only[aops,Option.some.injEq,Prod.mk.injEq] at h
  obtain⟨rfl,rfl⟩:=h
  exact⟨s',rfl,hs⟩
 |cons i l ih=>
  intro s s' x s1 h hs
  simp only[aops] at h⊢
  split at h
  ·cases h
  ·rename_i o ho
   cases hp:d1p P cfg call f ops o s with
   |none=>rw[hp] at h;cases h
   |some r0=>
    obtain⟨r',h1,h2⟩:=p1d hf hc hp hs
    rw[hp] at h
    rw[h1]
    cases h2 with
    |next hs'=>exact ih h hs'
    |panic v hs'=>
     simp only[Option.some.injEq,Prod.mk.injEq] at h
     obtain⟨rfl,rfl⟩:=h
     exact⟨_,rfl,hs'⟩
theorem b2h (hf:Fr ρ n N F) (hc:k1W ρ n N F call) {f:FuncId} {ops:Array Oper}:∀{l:List Oper} {i:Nat} {ancs:List Nat} {foot:List (Nat×Nat)} {s s' s1:St},g1X P cfg call f ops l i ancs foot s=some s1→SRl ρ n N F s s'→
  ∃s1',g1X P cfg call f ops l i ancs foot s'=some s1'∧SRl ρ n N F s1 s1':=by
 intro l
 induction l with
 |nil=>
  intro i ancs foot s s' s1 h hs
  simp only[g1X,Option.some.injEq] at h;subst h
  exact⟨s',rfl,hs⟩
 |cons o l ih=>
  intro i ancs foot s s' s1 h hs
  have eR:d1s cfg f ops o s'=d1s cfg f ops o s:=by unfold d1s;rw[hs.t,h1e,g1o,l1Q]
  have eW:b1U cfg f ops o s'=b1U cfg f ops o s:=by unfold b1U;rw[hs.t,h1e,g1o,l1Q]
  simp only[g1X,eR,eW] at h⊢
  split at h
  ·rename_i hcd
   rw[if_pos hcd]
   cases hp:d1p P cfg call f ops o s with
   |none=>rw[hp] at h;cases h
   |some r0=>
    obtain⟨r',h1,h2⟩:=p1d hf hc hp hs
    rw[hp] at h
    rw[h1]
    cases h2 with
    |next hs'=>exact ih h hs'
    |panic v hs'=>cases h
  ·cases h
theorem h1I (m:Nat):∀(l:List AV) (i:Nat),b1K m i (l.map (AV.ren ρ))=(b1K m i l).map (AV.ren ρ)
 |[],i=>rfl
 |v::r,i=>by
  simp only[List.map_cons,b1K,h1I m r]
  split<;>rfl
theorem m1D (m:Nat):∀(l:List (Option LCell)) (i:Nat),e1a m i (l.map (Option.map (renL ρ)))=(e1a m i l).map (Option.map (renL ρ))
 |[],i=>rfl
 |c::r,i=>by
  simp only[List.map_cons,e1a,m1D m r]
  split<;>rfl
theorem e2q (m:Nat) (v:AV):lpIn m (v.ren ρ)=lpIn m v:=by cases v<;>simp [lpIn]
theorem v1O {s s':St} (hs:SRl ρ n N F s s'):SRl ρ n N F (g1Y s) (g1Y s'):=
 ⟨by simp only[g1Y];rw[hs.t];exact h1I ..,by simp only[g1Y];rw[hs.l];exact m1D ..,hs.g⟩
theorem y1E (hf:Fr ρ n N F) (hc:k1W ρ n N F call) {f:FuncId} {ops:Array Oper}:∀{l:List Oper} {pv:Option (Nat×AV)} {i:Nat} {ancs:List Nat} {foot:List (Nat×Nat)} {s s':St} {v:AV} {s1:St},c1S P cfg call f ops pv l i ancs foot s=some (v,s1)→SRl ρ n N F s s'→
  ∃s1',c1S P cfg call f ops (pv.map fun p=>(p.1,p.2.ren ρ)) l i ancs foot s'=some (v.ren ρ,s1')∧SRl ρ n N F s1 s1':=by
 intro l
 induction l with
 |nil=>
  intro pv i ancs foot s s' v s1 h hs
  cases pv with
  |none=>simp [c1S] at h
  |some p=>
   obtain⟨p,w⟩:=p
   simp only[c1S,Option.some.injEq,Prod.mk.injEq] at h
   obtain⟨rfl,rfl⟩:=h
   exact⟨s',rfl,hs⟩
 |cons o l ih=>
  intro pv i ancs foot s s' v s1 h hs
  have eR:d1s cfg f ops o s'=d1s cfg f ops o s:=by unfold d1s;rw[hs.t,h1e,g1o,l1Q]
  have eW:b1U cfg f ops o s'=b1U cfg f ops o s:=by unfold b1U;rw[hs.t,h1e,g1o,l1Q]
  have eB:∀a,i1b (pv.map fun p=>(p.1,p.2.ren ρ)) a=i1b pv a:=fun a=>by cases pv<;>rfl
  simp only[c1S,eR,eW,eB] at h⊢
  split at h
  ·cases h
  ·rename_i hed
   try simp only[hed]
   split at h
   ·rename_i hb;(try simp only[hb]);exact ih h hs
   ·rename_i hb
    try simp only[hb]
    split at h
    ·cases h
    ·rename_i hap
     try simp only[hap]
     cases hp:d1p P cfg call f ops o s with
     |none=>rw[hp] at h;cases h
     |some r0=>
      obtain⟨r',h1,h2⟩:=p1d hf hc hp hs
      rw[hp] at h
      rw[h1]
      cases h2 with
      |next hs'=>exact ih h hs'
      |panic v1 hs'=>
       simp only at h⊢
       split at h
       ·rename_i hrw
        simp only[Option.map_none,hrw]
        exact ih (pv:=some (i,v1)) h hs'
       ·cases h
theorem j1Y (m:Nat):∀l:List (List AV),lowss m l=l.all (lows m)
 |[]=>rfl
 |a::l=>by rw[lowss,j1Y m l];rfl
section
variable {a b:Nat}
mutual
theorem k1X (hab:∀i,Nat.blt (ρ i) b=Nat.blt i a):∀v:AV,(v.ren ρ).low b=v.low a
 | .any=>rfl
 | .val _=>rfl
 | .slice _ rows _=>by rw[AV.ren,AV.low,AV.low];exact t1Y hab rows
 | .ref cs=>by rw[AV.ren,AV.low,AV.low];exact e1V hab cs
 | .ptr id _=>by rw[AV.ren,AV.low,AV.low];exact hab id
 | .lp _ _ _=>rfl
 | .func _ x y=>by rw[AV.ren,AV.low,AV.low,e1V hab x,e1V hab y]
 | .iface _ v=>by rw[AV.ren,AV.low,AV.low];exact k1X hab v
 | .agg cs=>by rw[AV.ren,AV.low,AV.low];exact e1V hab cs
 | .tuple vs=>by rw[AV.ren,AV.low,AV.low];exact e1V hab vs
theorem e1V (hab:∀i,Nat.blt (ρ i) b=Nat.blt i a):∀l:List AV,lows b (rens ρ l)=lows a l
 |[]=>rfl
 |v::l=>by rw[rens,lows,lows,k1X hab v,e1V hab l]
theorem t1Y (hab:∀i,Nat.blt (ρ i) b=Nat.blt i a):∀l:List (List AV),lowss b (k1F ρ l)=lowss a l
 |[]=>rfl
 |r::l=>by rw[k1F,lowss,lowss,e1V hab r,t1Y hab l]
end
mutual
theorem x1r (hab:a≤b):∀v:AV,v.low a=true→v.low b=true
 | .any=>fun _=>rfl
 | .val _=>fun _=>rfl
 | .slice _ rows _=>by rw[AV.low,AV.low];exact r1i hab rows
 | .ref cs=>by rw[AV.low,AV.low];exact g1p hab cs
 | .ptr id _=>by rw[AV.low,AV.low,Nat.blt_eq,Nat.blt_eq];omega
 | .lp _ _ _=>fun _=>rfl
 | .func _ x y=>by
  rw[AV.low,AV.low,Bool.and_eq_true,Bool.and_eq_true]
  exact fun h=>⟨g1p hab x h.1,g1p hab y h.2⟩
 | .iface _ v=>by rw[AV.low,AV.low];exact x1r hab v
 | .agg cs=>by rw[AV.low,AV.low];exact g1p hab cs
 | .tuple vs=>by rw[AV.low,AV.low];exact g1p hab vs
theorem g1p (hab:a≤b):∀l:List AV,lows a l=true→lows b l=true
 |[]=>fun _=>rfl
 |v::l=>by
  rw[lows,lows,Bool.and_eq_true,Bool.and_eq_true]
  exact fun h=>⟨x1r hab v h.1,g1p hab l h.2⟩
theorem r1i (hab:a≤b):∀l:List (List AV),lowss a l=true→lowss b l=true
 |[]=>fun _=>rfl
 |v::l=>by
  rw[lowss,lowss,Bool.and_eq_true,Bool.and_eq_true]
  exact fun h=>⟨g1p hab v h.1,r1i hab l h.2⟩
end
end
theorem Fr.blt (hf:Fr ρ n N F) {m:Nat} (hm:n≤m) (i:Nat):Nat.blt (ρ i) (m-n+N)=Nat.blt i m:=by
 rw[Bool.eq_iff_iff,Nat.blt_eq,Nat.blt_eq]
 rcases Nat.lt_or_ge i n with hi|hi
 ·have:=hf.lo i hi;omega
 ·have:=hf.hi i hi;omega
theorem HR.lowss (hf:Fr ρ n N F) {H K:Heap} (h:HR ρ n N F H K) {m:Nat} (hm:n≤m):lowss (m-n+N) (K.take (m-n+N))=lowss m (H.take m):=by
 rw[Bool.eq_iff_iff,j1Y,j1Y,List.all_eq_true,List.all_eq_true]
 have im:∀(i:Nat) cs,H[i]? =some cs→lows (m-n+N) (cs.map (AV.ren ρ))=lows m cs:=fun i cs _=>by
  rw[←d1O];exact e1V (hf.blt hm) cs
 constructor
 ·intro hk cs hcs
  obtain⟨i,hi,rfl⟩:=List.mem_iff_getElem.1 hcs
  simp only[List.length_take] at hi
  rw[List.getElem_take]
  have e:=h.im i
  have e0:H[i]? =some (H[i]'(by omega)):=List.getElem?_eq_getElem (by omega)
  rw[e0] at e
  rw[←im i _ e0]
  refine hk _ (List.mem_of_getElem? (i:=ρ i) ?_)
  rw[List.getElem?_take,if_pos]
  ·exact e
  ·have:=hf.blt hm i
   rw[Bool.eq_iff_iff,Nat.blt_eq,Nat.blt_eq] at this
   exact this.2 (by omega)
 ·intro hh cs hcs
  obtain⟨j,hj,rfl⟩:=List.mem_iff_getElem.1 hcs
  simp only[List.length_take] at hj
  rw[List.getElem_take]
  have him:∀i,i<m→ρ i=j→lows (m-n+N) (K[j]'(by omega))=true:=by
   intro i hi e
   subst e
   have e:=h.im i
   rw[List.getElem?_eq_getElem (by omega)] at e
   cases hHi:H[i]? with
   |none=>rw[hHi] at e;cases e
   |some cs=>
    rw[hHi] at e
    simp only[Option.map_some,Option.some.injEq] at e
    rw[e,im i cs hHi]
    refine hh cs (List.mem_of_getElem? (i:=i) ?_)
    rw[List.getElem?_take,if_pos hi];exact hHi
  by_cases hex:∃i,i<m∧ρ i=j
  ·obtain⟨i,hi,e⟩:=hex;exact him i hi e
  ·have hjN:j<N:=by
    rcases Nat.lt_or_ge j N with h1|h1
    ·exact h1
    ·exact absurd ⟨j-N+n,by omega,by have:=hf.hi (j-N+n) (by omega);omega⟩ hex
   have e:=h.off j hjN (fun i hi e=>hex ⟨i,by omega,e⟩)
   rw[List.getElem?_eq_getElem (by omega)] at e
   exact g1p (by omega) _ (hf.low j _ e.symm hjN (fun i hi e=>hex ⟨i,by omega,e⟩))
theorem HR.take (hf:Fr ρ n N F) {H K:Heap} (h:HR ρ n N F H K) {m:Nat} (hm:n≤m):HR ρ n N F (H.take m) (K.take (m-n+N)):=by
 have h1:=h.le
 have h2:=h.len
 refine⟨by simp;omega,by simp;omega,?_,?_⟩
 ·intro i
  have:=hf.blt hm i
  rw[Bool.eq_iff_iff,Nat.blt_eq,Nat.blt_eq] at this
  rw[List.getElem?_take,List.getElem?_take]
  by_cases hi:i<m
  ·rw[if_pos hi,if_pos (this.2 hi)];exact h.im i
  ·rw[if_neg hi,if_neg (fun hh=>hi (this.1 hh))];rfl
 ·intro j hj hn
  rw[List.getElem?_take,if_pos (by omega)];exact h.off j hj hn
theorem r1Y {a b:Nat} (hab:∀i,Nat.blt (ρ i) b=Nat.blt i a):∀l:List (Option LCell),lowL b (l.map (Option.map (renL ρ)))=lowL a l
 |[]=>rfl
 |none::l=>by simp only[List.map_cons,Option.map_none,lowL];exact r1Y hab l
 |some (g,cs)::l=>by simp only[List.map_cons,Option.map_some,renL,lowL,r1Y hab l,←d1O,e1V hab]
theorem x1s {a b:Nat} (hab:∀i,Nat.blt (ρ i) b=Nat.blt i a):∀l:List ADef,lowD b (l.map (renD ρ))=lowD a l
 |[]=>rfl
 |d::l=>by simp only[List.map_cons,renD,lowD,x1s hab l,←d1O,e1V hab]
theorem b2i {a b:Nat} (hab:∀i,Nat.blt (ρ i) b=Nat.blt i a) (m:RM):a2O b (h1y ρ m)=a2O a m:=by
 cases m with
 |panicking v r=>exact k1X hab v
 |_=>rfl
theorem b2j (hf:Fr ρ n N F) {s s':St} (hs:SRl ρ n N F s s'):SRl ρ n N F (v1x s) (v1x s'):=by
 obtain⟨hb1,hb2⟩:=hs.g.bs
 have h2:=hs.g.H.len
 have h1:=hs.g.H.le
 have e1:Nat.ble s'.g.H.length s'.g.base=Nat.ble s.g.H.length s.g.base:=by
  rw[Bool.eq_iff_iff,Nat.ble_eq,Nat.ble_eq];omega
 have e2:v1w s'.g.base s'=v1w s.g.base s:=by
  have hab:=hf.blt hb1
  unfold v1w
  rw[hs.t,hs.l,hs.g.df,hs.g.rm,hb2,r1Y hab,x1s hab,b2i hab,hs.g.H.lowss hf hb1,←d1O,e1V hab]
 unfold v1x
 rw[e1,e2]
 split
 ·exact hs
 ·split
  ·refine⟨hs.t,hs.l,?_,hs.g.df,hs.g.rm,hs.g.bs⟩
   simp only
   rw[hb2];exact hs.g.H.take hf hb1
  ·exact hs
theorem r1j (hf:Fr ρ n N F) {live:Option Nat} {s s' s1:St} (h:f1u live s=some s1) (hs:SRl ρ n N F s s'):∃s1',f1u live s'=some s1'∧SRl ρ n N F s1 s1':=by
 unfold f1u at h⊢
 cases live with
 |none=>
  simp only[Option.some.injEq] at h;subst h
  exact⟨s',rfl,hs⟩
 |some m=>
  simp only at h⊢
  have e:(b1K m 0 s'.tmps).all (lpIn m)=(b1K m 0 s.tmps).all (lpIn m):=by
   rw[hs.t,h1I,List.all_map]
   congr 1;funext v;exact e2q m v
  rw[e]
  split at h
  ·rename_i hc
   rw[if_pos hc]
   have h0:SRl ρ n N F {s with tmps:=b1K m 0 s.tmps,lh:=e1a m 0 s.lh} {s' with tmps:=b1K m 0 s'.tmps,lh:=e1a m 0 s'.lh}:=
    ⟨by rw[hs.t];exact h1I ..,by rw[hs.l];exact m1D ..,hs.g⟩
   split at h
   ·simp only[Option.some.injEq] at h;subst h
    exact⟨_,rfl,b2j hf h0⟩
   ·simp only[Option.some.injEq] at h;subst h
    exact⟨_,rfl,h0⟩
  ·cases h
theorem b2k (hf:Fr ρ n N F) {live:Option Nat} {body:St→Option (AX×St)} (hb:∀s s' x s1,body s=some (x,s1)→SRl ρ n N F s s'→∃s1',body s'=some (renX ρ x,s1')∧SRl ρ n N F s1 s1'):
  ∀{k:Nat} {s s':St} {x:AX} {s1:St},h1x live body k s=some (x,s1)→SRl ρ n N F s s'→∃s1',h1x live body k s'=some (renX ρ x,s1')∧SRl ρ n N F s1 s1':=by
 intro k
 induction k with
 |zero=>intro s s' x s1 h;simp [h1x] at h
 |succ k ih=>
  intro s s' x s1 h hs
  simp only[h1x] at h⊢
  cases hm:f1u live s with
  |none=>rw[hm] at h;cases h
  |some s0=>
   obtain⟨s0',h1,h2⟩:=r1j hf hm hs
   rw[hm] at h
   rw[h1]
   simp only at h⊢
   cases hp:body s0 with
   |none=>rw[hp] at h;cases h
   |some p=>
    obtain⟨y,s2⟩:=p
    obtain⟨s2',h3,h4⟩:=hb _ _ _ _ hp h2
    rw[hp] at h
    rw[h3]
    cases y with
    |normal=>exact ih h h4
    |exit id=>
     simp only[Option.some.injEq,Prod.mk.injEq] at h
     obtain⟨rfl,rfl⟩:=h;exact⟨_,rfl,h4⟩
    |ret=>
     simp only[Option.some.injEq,Prod.mk.injEq] at h
     obtain⟨rfl,rfl⟩:=h;exact⟨_,rfl,h4⟩
    |panic v=>
     simp only[Option.some.injEq,Prod.mk.injEq] at h
     obtain⟨rfl,rfl⟩:=h;exact⟨_,rfl,h4⟩
theorem x1t:∀l:List AV,lpOf (l.map (AV.ren ρ))=lpOf l
 |[]=>rfl
 |a::l=>by
  have ih:=x1t l
  cases a with
  |val v=>simp only[List.map_cons,AV.ren,lpOf,ih]
  |_=>simp [lpOf,ih]
theorem b2l (t g:Nat) (n m:Nat) (h:ρ n=m) (a:AV):(l1z t g n a).ren ρ=l1z t g m (a.ren ρ):=by
 cases a with
 |lp t' g' off=>
  simp only[l1z,AV.ren]
  split
  ·simp only[AV.ren,h]
  ·simp only[AV.ren]
 |_=>simp [l1z]
theorem t1Z (t g:Nat) (n m:Nat) (h:ρ n=m) (first args captured:List AV):(g1g t g n first args captured).map (AV.ren ρ)=g1g t g m (first.map (AV.ren ρ)) (args.map (AV.ren ρ)) (captured.map (AV.ren ρ)):=by
 unfold g1g
 simp only[List.map_append,e1p]
 congr 2
 rw[List.map_map,List.map_map]
 exact List.map_congr_left fun a _=>b2l t g n m h a
theorem r1Z (hf:Fr ρ n N F) {o:Oper} {ts:List AV} {s s':St} {t g m:Nat} {r r':CRes} {x:SR} (h:i1s o ts s t g m r=some x) (hs:SRl ρ n N F s s') (hr:RRl ρ n N F r r') (hm:n≤m):
  ∃x',i1s o (ts.map (AV.ren ρ)) s' t g (m-n+N) r'=some x'∧SRR ρ n N F x x':=by
 unfold i1s at h⊢
 split at h
 ·rename_i cs hdrop
  have hlen:r.H.length=m+1:=by have:=congrArg List.length hdrop;simp at this;omega
  have hK:=hr.H.len
  have hcs:r.H[m]? =some cs:=by have:=congrArg (fun l=>l[0]?) hdrop;simpa using this
  have hKm:r'.H[m-n+N]? =some (cs.map (AV.ren ρ)):=by
   have:=hr.H.im m
   rw[hf.hi m hm,hcs] at this
   exact this
  have hdrop':r'.H.drop (m-n+N)=[cs.map (AV.ren ρ)]:=by
   have hlt:m-n+N<r'.H.length:=(List.getElem?_eq_some_iff.1 hKm).1
   rw[List.drop_eq_getElem_cons hlt,List.drop_of_length_le (by omega)]
   rw[List.getElem?_eq_getElem hlt] at hKm
   injection hKm with hKm
   rw[hKm]
  rw[hdrop']
  simp only
  have hblt:=hf.blt hm
  have e1:r'.out.low (m-n+N)=r.out.low m:=by
   rw[hr.o]
   cases r.out with
   |ret v=>exact k1X hblt v
   |panic v=>exact k1X hblt v
  have e2:lows (m-n+N) (cs.map (AV.ren ρ))=lows m cs:=by rw[←d1O];exact e1V hblt cs
  have e3:=hr.H.lowss hf hm
  rw[e1,e2,e3]
  split at h
  ·rename_i hlow
   try rw[hlow]
   try simp only
   have hg:GRl ρ n N F {s.g with H:=r.H.take m} {s'.g with H:=r'.H.take (m-n+N)}:=⟨hr.H.take hf hm,hs.g.df,hs.g.rm,hs.g.bs⟩
   split at h
   ·rename_i v hout
    simp only[Option.some.injEq] at h;subst h
    rw[hr.o,hout]
    exact⟨_,rfl,.next ⟨by simp only[l1R],by simp only[hs.l,List.map_set,Option.map_some,renL],hg⟩⟩
   ·rename_i v hout
    simp only[Option.some.injEq] at h;subst h
    rw[hr.o,hout]
    exact⟨_,rfl,.panic v ⟨rfl,by simp only[hs.l,List.map_set,Option.map_some,renL],hg⟩⟩
  ·cases h
 ·cases h
theorem r1k (hf:Fr ρ n N F) (hc:k1W ρ n N F call) {f:FuncId} {o:Oper} {s s':St} {r:SR} (h:g1Z cfg call f o s=some r) (hs:SRl ρ n N F s s'):
  ∃r',g1Z cfg call f o s'=some r'∧SRR ρ n N F r r':=by
 unfold g1Z at h⊢
 simp only[hs.t,hs.l,g1o,l1P] at h⊢
 split at h
 ·cases h
 ·rename_i e0
  try simp only[e0]
  split at h
  ·rename_i c hop
   split at h
   ·rename_i x g first captured args hcc hv
    try simp only[hop] at hv⊢
    simp only[hcc,hv,List.map_cons,AV.ren,d1O,x1t]
    split at h
    ·cases h
    ·rename_i t gen hlp
     try simp only[List.getElem?_map]
     split at h
     ·rename_i gen' cells hlh
      try simp only[hlh,Option.map_some,renL]
      split at h
      ·cases h
      ·rename_i hg
       try simp only[hg]
       have hp:=hs.g.H.push hf cells
       have hle:=hs.g.H.le
       have hK:=hs.g.H.len
       have ea:=t1Z t gen s.g.H.length s'.g.H.length hp.2 first args captured
       rw[←ea,h1d]
       split at h
       ·cases h
       ·rename_i hany
        try simp only[hany]
        split at h
        ·rename_i res hcl
         obtain⟨res',h1,h2⟩:=hc _ _ _ _ _ hcl _ hp.1
         simp only[h1y] at h1
         rw[h1]
         simp only
         have:=r1Z hf h hs h2 hle
         rw[←hK] at this
         simpa only[hop] using this
        ·cases h
     ·cases h
   ·cases h
  ·cases h
theorem b2m (hf:Fr ρ n N F) (hc:k1W ρ n N F call) {f:FuncId} {ops:Array Oper} {s s':St} {x:AX} {s1:St} (h:l1A P cfg call f ops s=some (x,s1)) (hs:SRl ρ n N F s s'):
  ∃s1',l1A P cfg call f ops s'=some (renX ρ x,s1')∧SRl ρ n N F s1 s1':=by
 unfold l1A at h⊢
 split at h
 ·rename_i s2 e1
  obtain⟨s2',h1,h2⟩:=r1X hf hc e1 hs
  simp only[renX] at h1
  rw[h1]
  simp only
  split at h
  ·rename_i o ho
   split at h
   ·rename_i s3 e2
    simp only[Option.some.injEq,Prod.mk.injEq] at h
    obtain⟨rfl,rfl⟩:=h
    obtain⟨r',h3,h4⟩:=r1k hf hc e2 h2
    rw[h3]
    cases h4 with
    |next h5=>exact⟨_,rfl,h5⟩
   ·rename_i v s3 e2
    simp only[Option.some.injEq,Prod.mk.injEq] at h
    obtain⟨rfl,rfl⟩:=h
    obtain⟨r',h3,h4⟩:=r1k hf hc e2 h2
    rw[h3]
    cases h4 with
    |panic v h5=>exact⟨_,rfl,h5⟩
   ·cases h
  ·cases h
 ·rename_i hne
  obtain⟨s1',h1,h2⟩:=r1X hf hc h hs
  rw[h1]
  cases x with
  |normal=>exact absurd h (hne s1)
  |_=>exact⟨s1',rfl,h2⟩
theorem p1e (hf:Fr ρ n N F) (hc:k1W ρ n N F call) {k:Nat} {f:FuncId}:∀{c:Code} {b:Nat} {s s':St} {x:AX} {s1:St},b1Y P cfg call k f b c s=some (x,s1)→SRl ρ n N F s s'→
  ∃s1',b1Y P cfg call k f b c s'=some (renX ρ x,s1')∧SRl ρ n N F s1 s1':=by
 intro c
 induction c with
 |skip=>
  intro b s s' x s1 h hs
  simp only[b1Y,Option.some.injEq,Prod.mk.injEq] at h⊢
  obtain⟨rfl,rfl⟩:=h
  exact⟨s',⟨rfl,rfl⟩,hs⟩
 |region id ops d=>
  intro b s s' x s1 h hs
  cases d with
  |false=>
   simp only[b1Y] at h⊢
   split at h
   ·exact r1X hf hc h hs
   ·exact b2m hf hc h hs
  |true=>
   simp only[b1Y] at h⊢
   cases hp:g1X P cfg call f ops ops.toList 0 [] [] s with
   |none=>
    rw[hp] at h
    cases hq:c1S P cfg call f ops none ops.toList 0 [] [] s with
    |none=>rw[hq] at h;cases h
    |some p=>
     obtain⟨v,s2⟩:=p
     obtain⟨s2',h1,h2⟩:=y1E hf hc hq hs
     rw[hq] at h
     rw[Option.map_none] at h1
     rw[j1c h1,h1]
     simp only[Option.some.injEq,Prod.mk.injEq] at h
     obtain⟨rfl,rfl⟩:=h
     exact⟨_,rfl,v1O h2⟩
   |some s2=>
    obtain⟨s2',h1,h2⟩:=b2h hf hc hp hs
    rw[hp] at h
    rw[h1]
    simp only[Option.some.injEq,Prod.mk.injEq] at h
    obtain⟨rfl,rfl⟩:=h
    exact⟨_,rfl,h2⟩
 |seq c1 c2 ih1 ih2=>
  intro b s s' x s1 h hs
  simp only[b1Y] at h⊢
  cases hp:b1Y P cfg call k f b c1 s with
  |none=>rw[hp] at h;cases h
  |some p=>
   obtain⟨y,s2⟩:=p
   obtain⟨s2',h1,h2⟩:=ih1 hp hs
   rw[hp] at h
   rw[h1]
   cases y with
   |normal=>
    simp only[renX] at h⊢
    split at h
    ·rename_i s3 hm
     obtain⟨s3',h3,h4⟩:=r1j hf hm h2
     rw[h3]
     exact ih2 h h4
    ·cases h
   |exit id=>
    simp only[Option.some.injEq,Prod.mk.injEq] at h
    obtain⟨rfl,rfl⟩:=h;exact⟨_,rfl,h2⟩
   |ret=>
    simp only[Option.some.injEq,Prod.mk.injEq] at h
    obtain⟨rfl,rfl⟩:=h;exact⟨_,rfl,h2⟩
   |panic v=>
    simp only[Option.some.injEq,Prod.mk.injEq] at h
    obtain⟨rfl,rfl⟩:=h;exact⟨_,rfl,h2⟩
 |cond c x y ihx ihy=>
  intro b s s' x s1 h hs
  simp only[b1Y] at h⊢
  rw[hs.t,o1X]
  split at h
  ·rename_i e;rw[e];exact ihx h hs
  ·rename_i e;rw[e];exact ihy h hs
  ·cases h
 |block id c ih=>
  intro b s s' x s1 h hs
  simp only[b1Y] at h⊢
  cases hp:b1Y P cfg call k f id c s with
  |none=>rw[hp] at h;cases h
  |some p=>
   obtain⟨y,s2⟩:=p
   obtain⟨s2',h1,h2⟩:=ih hp hs
   rw[hp] at h
   rw[h1]
   cases y with
   |exit id'=>
    simp only[renX] at h⊢
    split at h
    ·rename_i e
     rw[if_pos e]
     simp only[Option.some.injEq,Prod.mk.injEq] at h
     obtain⟨rfl,rfl⟩:=h;exact⟨_,rfl,h2⟩
    ·rename_i e
     rw[if_neg e]
     simp only[Option.some.injEq,Prod.mk.injEq] at h
     obtain⟨rfl,rfl⟩:=h;exact⟨_,rfl,h2⟩
   |normal=>
    simp only[Option.some.injEq,Prod.mk.injEq] at h
    obtain⟨rfl,rfl⟩:=h;exact⟨_,rfl,h2⟩
   |ret=>
    simp only[Option.some.injEq,Prod.mk.injEq] at h
    obtain⟨rfl,rfl⟩:=h;exact⟨_,rfl,h2⟩
   |panic v=>
    simp only[Option.some.injEq,Prod.mk.injEq] at h
    obtain⟨rfl,rfl⟩:=h;exact⟨_,rfl,h2⟩
 |scope c ih=>
  intro b s s' x s1 h hs
  simp only[b1Y] at h⊢
  exact ih h hs
 |label l=>
  intro b s s' x s1 h hs
  simp only[b1Y,Option.some.injEq,Prod.mk.injEq] at h⊢
  obtain⟨rfl,rfl⟩:=h
  exact⟨s',⟨rfl,rfl⟩,hs⟩
 |loop c ih=>
  intro b s s' x s1 h hs
  simp only[b1Y] at h⊢
  exact b2k hf (fun s s' x s1 h hs=>ih h hs) h hs
 |exit id=>
  intro b s s' x s1 h hs
  simp only[b1Y,Option.some.injEq,Prod.mk.injEq] at h⊢
  obtain⟨rfl,rfl⟩:=h
  exact⟨s',⟨rfl,rfl⟩,hs⟩
 |ret=>
  intro b s s' x s1 h hs
  simp only[b1Y,Option.some.injEq,Prod.mk.injEq] at h⊢
  obtain⟨rfl,rfl⟩:=h
  exact⟨s',⟨rfl,rfl⟩,hs⟩
 |_=>intro b s s' x s1 h;simp [b1Y] at h
theorem y1F (m:RM):m1t (h1y ρ m)=h1y ρ (m1t m):=by
 cases m with
 |panicking v r=>cases r<;>rfl
 |_=>rfl
theorem p1f (hc:k1W ρ n N F call):∀{l:List ADef} {m:RM} {H K:Heap} {m1:RM} {H1:Heap},d1M call l m H=some (m1,H1)→HR ρ n N F H K→
  ∃K1,d1M call (l.map (renD ρ)) (h1y ρ m) K=some (h1y ρ m1,K1)∧HR ρ n N F H1 K1:=by
 intro l
 induction l with
 |nil=>
  intro m H K m1 H1 h hH
  simp only[d1M,Option.some.injEq,Prod.mk.injEq] at h
  obtain⟨rfl,rfl⟩:=h
  exact⟨K,rfl,hH⟩
 |cons d l ih=>
  intro m H K m1 H1 h hH
  simp only[List.map_cons,d1M,renD] at h⊢
  split at h
  ·rename_i v m' H' e
   obtain⟨⟨o,rm',K'⟩,e',h1,h2,h3⟩:=hc _ _ _ _ _ e _ hH
   simp only[g1B] at h1 h2;subst h1;subst h2
   rw[e']
   simp only[y1F]
   exact ih h h3
  ·rename_i v m' H' e
   obtain⟨⟨o,rm',K'⟩,e',h1,h2,h3⟩:=hc _ _ _ _ _ e _ hH
   simp only[g1B] at h1;subst h1
   rw[e']
   exact ih h h3
  ·cases h
theorem v1P {s s':St} {H K:Heap} (hs:SRl ρ n N F s s') (hH:HR ρ n N F H K) (r:ResultVar) {v:AV} (h:i1Y P s H r=some v):i1Y P s' K r=some (v.ren ρ):=by
 cases r with
 |tmp t=>
  simp only[i1Y,hs.t,r1V,r1U] at h⊢
  split at h
  ·cases h
  ·rename_i e
   rw[if_neg e]
   simp only[Option.some.injEq] at h;subst h;rfl
 |cell a t=>
  simp only[i1Y,hs.t,hs.l,r1V] at h⊢
  cases ha:s.tmps.getD a .any with
  |ref cs=>
   rw[ha] at h
   simp only[o1S] at h⊢
   rw[d1e,h];rfl
  |ptr id o=>
   rw[ha] at h
   simp only[o1T,hH.im] at h⊢
   cases hc:H[id]? with
   |none=>rw[hc] at h;cases h
   |some cs=>
    rw[hc] at h
    simp only[Option.map_some] at h⊢
    rw[d1e,h];rfl
  |lp l g o=>
   rw[ha] at h
   simp only[x1q,List.getElem?_map] at h⊢
   cases hc:s.lh[l]? with
   |none=>rw[hc] at h;cases h
   |some c=>cases c with
    |none=>rw[hc] at h;cases h
    |some c=>
     obtain⟨g',cs⟩:=c
     rw[hc] at h
     simp only[Option.map_some,renL] at h⊢
     split at h
     ·rename_i e
      rw[if_pos e,d1e,h];rfl
     ·cases h
  |_=>rw[ha] at h;simp at h
theorem h1J {s s':St} {H K:Heap} (hs:SRl ρ n N F s s') (hH:HR ρ n N F H K):∀(rs:List ResultVar) {l:List AV},c1X P s H rs=some l→c1X P s' K rs=some (l.map (AV.ren ρ))
 |[],l,h=>by simp only[c1X,Option.some.injEq] at h;subst h;rfl
 |r::rs,l,h=>by
  simp only[c1X] at h⊢
  cases h1:i1Y P s H r with
  |none=>rw[h1] at h;cases h
  |some v=>cases h2:c1X P s H rs with
   |none=>rw[h1,h2] at h;cases h
   |some l'=>
    rw[h1,h2] at h
    simp only[Option.some.injEq] at h;subst h
    rw[v1P hs hH r h1,h1J hs hH rs h2];rfl
theorem j1Z (l:List AV):e1T (l.map (AV.ren ρ))=(e1T l).ren ρ:=by
 match l with
 |[]=>simp [e1T]
 |[v]=>rfl
 |a::b::r=>
  simp only[List.map_cons,e1T,o1V,AV.tuple.injEq,m1C,List.cons.injEq,true_and]
  exact(e1p r).symm
theorem k1Y (hc:k1W ρ n N F call) {fn:Func} {s s':St} {m:RM} {r:CRes} (h:d1w P call fn s m=some r) (hs:SRl ρ n N F s s'):
  ∃r',d1w P call fn s' (h1y ρ m)=some r'∧RRl ρ n N F r r':=by
 unfold d1w at h⊢
 rw[hs.g.rm,hs.g.df]
 cases hrm:s.g.rm with
 |none=>
  rw[hrm] at h
  have e0:h1y ρ .none=.none:=rfl
  simp only[e0] at h⊢
  split at h
  ·rename_i H e
   obtain⟨K1,h1,h2⟩:=p1f hc e hs.g.H
   rw[h1]
   simp only[h1y]
   split at h
   ·rename_i l e2
    simp only[Option.some.injEq] at h;subst h
    rw[h1J hs h2 _ e2]
    exact⟨_,rfl,⟨by simp only[g1B,j1Z],rfl,h2⟩⟩
   ·cases h
  ·rename_i v H e
   obtain⟨K1,h1,h2⟩:=p1f hc e hs.g.H
   rw[h1]
   simp only[Option.some.injEq] at h;subst h
   exact⟨_,rfl,⟨rfl,rfl,h2⟩⟩
  ·cases h
 |returning=>
  rw[hrm] at h
  simp only[h1y,List.isEmpty_map] at h⊢
  split at h
  ·rename_i he
   rw[if_pos he]
   cases m with
   |returning=>
    simp only at h⊢
    split at h
    ·rename_i l e2
     simp only[Option.some.injEq] at h;subst h
     rw[h1J hs hs.g.H _ e2]
     exact⟨_,rfl,⟨by simp only[g1B,j1Z],rfl,hs.g.H⟩⟩
    ·cases h
   |panicking v b=>cases b with
    |false=>
     simp only[Option.some.injEq] at h;subst h
     exact⟨_,rfl,⟨rfl,rfl,hs.g.H⟩⟩
    |true=>cases h
   |none=>cases h
  ·cases h
 |panicking v0 b0=>
  rw[hrm] at h
  simp only[h1y,List.isEmpty_map] at h⊢
  split at h
  ·rename_i he
   rw[if_pos he]
   cases m with
   |returning=>
    simp only at h⊢
    split at h
    ·rename_i l e2
     simp only[Option.some.injEq] at h;subst h
     rw[h1J hs hs.g.H _ e2]
     exact⟨_,rfl,⟨by simp only[g1B,j1Z],rfl,hs.g.H⟩⟩
    ·cases h
   |panicking v b=>cases b with
    |false=>
     simp only[Option.some.injEq] at h;subst h
     exact⟨_,rfl,⟨rfl,rfl,hs.g.H⟩⟩
    |true=>cases h
   |none=>cases h
  ·cases h
theorem b2n (hf:Fr ρ n N F) (hc:k1W ρ n N F call) {k:Nat} {f:FuncId} {fn:Func} {c:Code} {args:List AV} {rm:RM} {H K:Heap} {r:CRes} (h:o1B P cfg call k f fn c args rm H=some r) (hH:HR ρ n N F H K):
  ∃r',o1B P cfg call k f fn c (args.map (AV.ren ρ)) (h1y ρ rm) K=some r'∧RRl ρ n N F r r':=by
 unfold o1B at h⊢
 have h0:SRl ρ n N F ⟨args++List.replicate (fn.ntmps-args.length) (.val undef),List.replicate fn.ntmps none,⟨H,[],rm,H.length⟩⟩
   ⟨args.map (AV.ren ρ)++List.replicate (fn.ntmps-(args.map (AV.ren ρ)).length) (.val undef),List.replicate fn.ntmps none,⟨K,[],h1y ρ rm,K.length⟩⟩:=
  ⟨by simp,by simp,⟨hH,rfl,rfl,hH.le,hH.len⟩⟩
 split at h
 ·rename_i s e
  obtain⟨s',e',hs⟩:=p1e hf hc e h0
  rw[e']
  exact k1Y hc h hs
 ·rename_i s e
  obtain⟨s',e',hs⟩:=p1e hf hc e h0
  rw[e']
  exact k1Y hc h hs
 ·rename_i v s e
  obtain⟨s',e',hs⟩:=p1e hf hc e h0
  rw[e']
  exact k1Y hc h hs
 ·cases h
theorem y1G (hf:Fr ρ n N F) {r r':CRes} (h:RRl ρ n N F r r') {H K:Heap} (hH:HR ρ n N F H K):RRl ρ n N F (cutRes H.length r) (cutRes K.length r'):=by
 have h1:=hH.le
 have h2:=hH.len
 have h3:=h.H.len
 have h4:=h.H.le
 have e1:Nat.ble r'.H.length K.length=Nat.ble r.H.length H.length:=by
  rw[Bool.eq_iff_iff,Nat.ble_eq,Nat.ble_eq];omega
 have e2:r'.out.low K.length=r.out.low H.length:=by
  rw[h.o,h2]
  cases r.out with
  |ret v=>exact k1X (hf.blt h1) v
  |panic v=>exact k1X (hf.blt h1) v
 have e3:Eng.lowss K.length (r'.H.take K.length)=Eng.lowss H.length (r.H.take H.length):=by
  rw[h2];exact h.H.lowss hf h1
 unfold cutRes
 rw[e1,e2,e3]
 split
 ·exact h
 ·split
  ·refine⟨h.o,h.rm,?_⟩
   rw[h2];exact h.H.take hf h1
  ·exact h
theorem u1a (t:TypeId) (v:AV):(n1S P t v).ren ρ=n1S P t (v.ren ρ):=by
 cases v with
 |agg cs=>
  unfold n1S
  simp only[AV.ren]
  split
  ·split
   ·simp only[AV.ren,k1s]
   ·rfl
  ·rfl
 |slice sz rows own=>exact t1W (P:=P) (ρ:=ρ) t (.slice sz rows own)
 |_=>rfl
theorem u1b:∀(ts:List TypeId) (vs:List AV),rens ρ (r1M P ts vs)=r1M P ts (rens ρ vs)
 |[],vs=>by unfold r1M;rfl
 |t::ts,[]=>rfl
 |t::ts,v::vs=>by simp only[r1M,rens,u1a,u1b ts vs]
theorem k1Z {b:Bool} {ts:List TypeId} {r r':CRes} (h:RRl ρ n N F r r'):RRl ρ n N F (f1v P b ts r) (f1v P b ts r'):=by
 cases b with
 |false=>exact h
 |true=>
  refine⟨?_,h.rm,h.H⟩
  simp only[f1v,h.o]
  cases r.out with
  |panic v=>rfl
  |ret v=>
   simp only[a2Q,g1B]
   split
   ·simp only[u1a]
   ·cases v with
    |tuple vs=>simp only[AV.ren,u1b]
    |_=>rfl
def ExtR (ρ:Nat→Nat) (n N:Nat) (F:Heap) (ext:Ext):Prop:=
 ∀f e,ext f=some e→∀args H out H',e args H=some (out,H')→∀K,HR ρ n N F H K→∃K',e (args.map (AV.ren ρ)) K=some (g1B ρ out,K')∧HR ρ n N F H' K'
theorem b2o {ext:Ext} (hf:Fr ρ n N F) (hx:ExtR ρ n N F ext):∀k,k1W ρ n N F (e1m P cfg ext k):=by
 intro k
 induction k with
 |zero=>intro f args rm H r h;simp [e1m] at h
 |succ k ih=>
  intro f args rm H r h K hH
  simp only[e1m] at h⊢
  split at h
  ·rename_i e he
   split at h
   ·split at h
    ·rename_i out H' heq
     simp only[Option.some.injEq] at h;subst h
     obtain⟨K',k1,k2⟩:=hx f e he args H out H' heq K hH
     simp only[h1y,k1]
     exact⟨_,rfl,rfl,rfl,k2⟩
    ·cases h
   ·cases h
  ·split at h
   ·cases h
   ·split at h
    ·cases h
    rw[Option.map_eq_some_iff] at h
    obtain⟨r0,h,rfl⟩:=h
    obtain⟨r',h1,h2⟩:=b2n hf ih h hH
    rw[h1]
    refine⟨_,rfl,?_⟩
    cases rm with
    |none=>exact k1Z (y1G hf h2 hH)
    |returning=>exact k1Z h2
    |panicking v b=>exact k1Z h2
theorem g2c {ext:Ext} (hf:Fr ρ n N F) (hx:ExtR ρ n N F ext):k1W ρ n N F (ev P cfg ext):=by
 intro f args rm H r h K hH
 obtain⟨k,hk⟩:=o1N.1 h
 obtain⟨r',h1,h2⟩:=b2o hf hx k f args rm H r hk K hH
 exact⟨r',o1N.2 ⟨k,h1⟩,h2⟩
end
end Go.Eng
end

section
/-
  THE ENGINE, part 18: what code comes to, told forward (WC, WO): one rule for each form of code and of operation.
-/
set_option linter.unusedVariables false
set_option linter.unusedSimpArgs false
namespace Go.Eng
def gval (dsts:List (Option Tmp)) (T:List AV) (j:Nat):Option AV:=
 match dsts.getD j none with
 |none=>some (.val undef)
 |some t=>match T[t]? with
  |none=>some (.val undef)
  |some v=>some v
def o1R (dsts:List (Option Tmp)) (o:Oper) (T:List AV):Option Bool:=
 match o.guard with
 |none=>some true
 |some (j,want)=>match gval dsts T j with
  |some (.val (.bool b))=>some (b==want)
  |some (.val _)=>some false
  |_=>none
section
variable (P:Program) (cfg:FuncId→FCfg) (call:CallF)
def h1b (f:FuncId) (dsts:List (Option Tmp)):List Oper→List (Option Cls)→St→Option (AX×List (Option Cls)×St)
 |[],acc,s=>some (.normal,acc,s)
 |o::r,acc,s=>match o1R dsts o s.tmps with
  |some true=>match aop P cfg call f o s with
   |some (.next s')=>h1b f dsts r (some (acls cfg f o (vals s.tmps o.op.operands.toList (b1v cfg f o)))::acc) s'
   |some (.panic v s')=>some (.panic v,some (acls cfg f o (vals s.tmps o.op.operands.toList (b1v cfg f o)))::acc,s')
   |none=>none
  |some false=>h1b f dsts r (none::acc) {s with tmps:=putT s.tmps o.dst (.val undef)}
  |none=>none
def sR (f:FuncId) (dsts:List (Option Tmp)) (o:Oper) (c:Option Cls):Nat:=
 i1X o.op.operands.toList|||l1y (match o.guard with|none=>none|some (j,_)=>dsts.getD j none)|||
  match c with
  |some .pure=>0
  |some (.loc l _)=>2^(2*l+1)
  |some (.glob _)=>1
  |none=>0
def sW (f:FuncId) (o:Oper) (c:Option Cls):Nat:=
 l1y o.dst|||h1F (a1q o.op.operands.toList (b1v cfg f o))|||
  match c with
  |some (.loc l true)=>2^(2*l+1)
  |some (.glob true)=>1
  |_=>0
def t1M (f:FuncId) (dsts:List (Option Tmp)):List Oper→List (Option Cls)→(i:Nat)→(ancs:List Nat)→(foot:List (Nat×Nat))→Bool
 |o::r,c::cl,i,ancs,foot=>
  edgesDown i o.after.toList&&apartFrom (ancBits ancs o.after.toList) (sR f dsts o c) (sW cfg f o c) 0 foot&&
   t1M f dsts r cl (i+1) (ancs++[ancBits ancs o.after.toList]) (foot++[(sR f dsts o c,sW cfg f o c)])
 |_,_,_,_,_=>true
def kNo:CallF:=fun _ _ _ _=>none
def r1d (f:FuncId) (ops:Array Oper) (dsts:List (Option Tmp)) (v:AV):List Oper→List (Option Cls)→(i:Nat)→(ancs:List Nat)→(foot:List (Nat×Nat))→St→Option (AV×St)
 |o::r,c::cl,i,ancs,foot,s=>
  match edgesDown i o.after.toList&&apartFrom (ancBits ancs o.after.toList) (sR f dsts o c) (sW cfg f o c) 0 foot with
  |false=>none
  |true=>match cl with
   |[]=>match (sR f dsts o c).testBit 0&&(sW cfg f o c).testBit 0 with
    |true=>c1S P cfg kNo f ops (some (i,v)) r (i+1) (ancs++[ancBits ancs o.after.toList]) (foot++[(sR f dsts o c,sW cfg f o c)]) s
    |false=>none
   |c2::cl2=>r1d f ops dsts v r (c2::cl2) (i+1) (ancs++[ancBits ancs o.after.toList]) (foot++[(sR f dsts o c,sW cfg f o c)]) s
 |_,_,_,_,_,_=>none
def WC (f:FuncId) (b:Nat) (c:Code) (Q:AX→St→Prop) (s:St):Prop:=∃x s',c1O P cfg call f b c s=some (x,s')∧Q x s'
end
section
variable {P:Program} {cfg:FuncId→FCfg} {call:CallF} {f:FuncId}
theorem c1B (ops:Array Oper) (o:Oper) (T:List AV):o1R (ops.toList.map (·.dst)) o T=e1n ops o T:=by
 unfold o1R e1n
 cases hg:o.guard with
 |none=>rfl
 |some p=>
  obtain⟨j,want⟩:=p
  simp only[gval]
  have e:(ops.toList.map (·.dst)).getD j none=(ops[j]?).bind (·.dst):=by
   rw[List.getD_eq_getElem?_getD,List.getElem?_map,Array.getElem?_toList]
   cases ops[j]?<;>rfl
  rw[e]
  cases (ops[j]?).bind (·.dst) with
  |none=>rfl
  |some t=>
   simp only
   cases T[t]? with
   |none=>rfl
   |some v=>
    cases v with
    |val u=>cases u<;>rfl
    |_=>rfl
theorem y1x {ops:Array Oper}:∀(l:List Oper) (i:Nat) (acc:List (Option Cls)) (s:St) (x:AX) (acc':List (Option Cls)) (s':St),ops.toList.drop i=l→h1b P cfg call f (ops.toList.map (·.dst)) l acc s=some (x,acc',s')→
  aops P cfg call f ops ((List.range ops.size).drop i) s=some (x,s'):=by
 intro l
 induction l with
 |nil=>
  intro i acc s x acc' s' hl h
  simp only[h1b,Option.some.injEq,Prod.mk.injEq] at h
  obtain⟨rfl,_,rfl⟩:=h
  have:ops.toList.length≤i:=List.drop_eq_nil_iff.1 hl
  rw[List.drop_of_length_le (by simpa using this)];rfl
 |cons o r ih=>
  intro i acc s x acc' s' hl h
  have hi:i<ops.toList.length:=by
   rcases Nat.lt_or_ge i ops.toList.length with h|h
   ·exact h
   ·rw[List.drop_of_length_le h] at hl;cases hl
  have hi':i<ops.size:=by simpa using hi
  rw[List.drop_eq_getElem_cons hi] at hl
  simp only[List.cons.injEq] at hl
  rw[List.drop_eq_getElem_cons (by simpa using hi')]
  simp only[List.getElem_range,aops]
  have ho:ops[i]? =some o:=by rw[←Array.getElem?_toList,List.getElem?_eq_getElem hi,hl.1]
  simp only[ho,d1p,←c1B]
  simp only[h1b] at h
  split at h
  ·rename_i hw
   simp only[hw]
   split at h
   ·rename_i e;simp only[e];exact ih _ _ _ _ _ _ hl.2 h
   ·rename_i e
    simp only[Option.some.injEq,Prod.mk.injEq] at h
    obtain⟨rfl,_,rfl⟩:=h
    simp only[e]
   ·cases h
  ·rename_i hw
   simp only[hw]
   exact ih _ _ _ _ _ _ hl.2 h
  ·cases h
theorem v1J {ops:Array Oper} {q:List Oper}:∀(l:List Oper) (i:Nat) (acc:List (Option Cls)) (s:St) (x:AX) (acc':List (Option Cls)) (s':St),ops.toList.drop i=l++q→h1b P cfg call f (ops.toList.map (·.dst)) l acc s=some (x,acc',s')→
  aops P cfg call f ops (((List.range ops.size).drop i).take l.length) s=some (x,s'):=by
 intro l
 induction l with
 |nil=>
  intro i acc s x acc' s' hl h
  simp only[h1b,Option.some.injEq,Prod.mk.injEq] at h
  obtain⟨rfl,_,rfl⟩:=h
  rfl
 |cons o r ih=>
  intro i acc s x acc' s' hl h
  have hi:i<ops.toList.length:=by
   rcases Nat.lt_or_ge i ops.toList.length with h|h
   ·exact h
   ·rw[List.drop_of_length_le h] at hl;cases hl
  have hi':i<ops.size:=by simpa using hi
  rw[List.drop_eq_getElem_cons hi] at hl
  simp only[List.cons_append,List.cons.injEq] at hl
  rw[List.drop_eq_getElem_cons (by simpa using hi'),List.length_cons,List.take_succ_cons]
  simp only[List.getElem_range,aops]
  have ho:ops[i]? =some o:=by rw[←Array.getElem?_toList,List.getElem?_eq_getElem hi,hl.1]
  simp only[ho,d1p,←c1B]
  simp only[h1b] at h
  split at h
  ·rename_i hw
   simp only[hw]
   split at h
   ·rename_i e;simp only[e];exact ih _ _ _ _ _ _ hl.2 h
   ·rename_i e
    simp only[Option.some.injEq,Prod.mk.injEq] at h
    obtain⟨rfl,_,rfl⟩:=h
    simp only[e]
   ·cases h
  ·rename_i hw
   simp only[hw]
   exact ih _ _ _ _ _ _ hl.2 h
  ·cases h
theorem l1I {dsts:List (Option Tmp)}:∀(l:List Oper) (acc:List (Option Cls)) (s:St) (x:AX) (acc':List (Option Cls)) (s':St),h1b P cfg call f dsts l acc s=some (x,acc',s')→∃new,acc'=new++acc∧
  ∀acc2,h1b P cfg call f dsts l acc2 s=some (x,new++acc2,s'):=by
 intro l
 induction l with
 |nil=>
  intro acc s x acc' s' h
  simp only[h1b,Option.some.injEq,Prod.mk.injEq] at h
  obtain⟨rfl,rfl,rfl⟩:=h
  exact⟨[],rfl,fun _=>rfl⟩
 |cons o r ih=>
  intro acc s x acc' s' h
  simp only[h1b] at h⊢
  split at h
  ·split at h
   ·obtain⟨new,e1,e2⟩:=ih _ _ _ _ _ h
    exact⟨new++[some (acls cfg f o (vals s.tmps o.op.operands.toList (b1v cfg f o)))],by rw[e1];simp,fun acc2=>by rw[e2];simp⟩
   ·simp only[Option.some.injEq,Prod.mk.injEq] at h
    obtain⟨rfl,rfl,rfl⟩:=h
    exact⟨[_],rfl,fun _=>rfl⟩
   ·cases h
  ·obtain⟨new,e1,e2⟩:=ih _ _ _ _ _ h
   exact⟨new++[none],by rw[e1];simp,fun acc2=>by rw[e2];simp⟩
  ·cases h
theorem v1K {ops:Array Oper}:∀(l:List Oper) (i:Nat) (ancs:List Nat) (foot:List (Nat×Nat)) (s:St) (cl:List (Option Cls)) (s':St),h1b P cfg call f (ops.toList.map (·.dst)) l [] s=some (.normal,cl,s')→
  t1M cfg f (ops.toList.map (·.dst)) l cl.reverse i ancs foot=true→g1X P cfg call f ops l i ancs foot s=some s':=by
 intro l
 induction l with
 |nil=>
  intro i ancs foot s cl s' h _
  simp only[h1b,Option.some.injEq,Prod.mk.injEq] at h
  obtain⟨_,_,rfl⟩:=h
  rfl
 |cons o r ih=>
  intro i ancs foot s cl s' h hc
  have hgt:(match o.guard with|none=>none|some (j,_)=>(ops.toList.map (·.dst)).getD j none)=g1E ops o:=by
   unfold g1E
   cases o.guard with
   |none=>rfl
   |some p=>
    obtain⟨j,want⟩:=p
    simp only[List.getD_eq_getElem?_getD,List.getElem?_map,Array.getElem?_toList]
    cases ops[j]?<;>rfl
  simp only[h1b] at h
  split at h
  ·rename_i hw
   split at h
   ·rename_i s1 e
    obtain⟨new,e1,e2⟩:=l1I _ _ _ _ _ _ h
    subst e1
    simp only[List.reverse_append,List.reverse_cons,List.reverse_nil,List.nil_append,List.cons_append,t1M,Bool.and_eq_true] at hc
    have h2:=e2 []
    simp only[List.append_nil] at h2
    have hR:d1s cfg f ops o s=sR f (ops.toList.map (·.dst)) o (some (acls cfg f o (vals s.tmps o.op.operands.toList (b1v cfg f o)))):=by
     unfold d1s sR
     rw[hgt,←c1B,hw]
     cases acls cfg f o (vals s.tmps o.op.operands.toList (b1v cfg f o))<;>rfl
    have hW:b1U cfg f ops o s=sW cfg f o (some (acls cfg f o (vals s.tmps o.op.operands.toList (b1v cfg f o)))):=by
     unfold b1U sW
     rw[←c1B,hw]
     generalize acls cfg f o (vals s.tmps o.op.operands.toList (b1v cfg f o))=c
     cases c with
     |pure=>rfl
     |loc l w=>cases w<;>rfl
     |glob w=>cases w<;>rfl
    simp only[g1X,hR,hW]
    rw[if_pos ⟨hc.1.1,hc.1.2⟩]
    simp only[d1p,←c1B,hw,e]
    exact ih _ _ _ _ _ _ h2 hc.2
   ·simp at h
   ·cases h
  ·rename_i hw
   obtain⟨new,e1,e2⟩:=l1I _ _ _ _ _ _ h
   subst e1
   simp only[List.reverse_append,List.reverse_cons,List.reverse_nil,List.nil_append,List.cons_append,t1M,Bool.and_eq_true] at hc
   have h2:=e2 []
   simp only[List.append_nil] at h2
   have hR:d1s cfg f ops o s=sR f (ops.toList.map (·.dst)) o none:=by
    unfold d1s sR
    rw[hgt,←c1B,hw]
   have hW:b1U cfg f ops o s=sW cfg f o none:=by
    unfold b1U sW
    rw[←c1B,hw]
   simp only[g1X,hR,hW]
   rw[if_pos ⟨hc.1.1,hc.1.2⟩]
   simp only[d1p,←c1B,hw]
   exact ih _ _ _ _ _ _ h2 hc.2
  ·cases h
theorem b2d:LeC kNo call:=fun _ _ _ _ _ h=>by cases h
theorem x1o {dsts:List (Option Tmp)}:∀(l:List Oper) (acc:List (Option Cls)) (s:St) (v:AV) (acc':List (Option Cls)) (s':St),h1b P cfg call f dsts l acc s=some (.panic v,acc',s')→acc.length<acc'.length:=by
 intro l
 induction l with
 |nil=>intro acc s v acc' s' h;simp [h1b] at h
 |cons o r ih=>
  intro acc s v acc' s' h
  simp only[h1b] at h
  split at h
  ·split at h
   ·have:=ih _ _ _ _ _ h;simp at this;omega
   ·simp only[Option.some.injEq,Prod.mk.injEq] at h
    obtain⟨_,rfl,_⟩:=h
    simp
   ·cases h
  ·have:=ih _ _ _ _ _ h;simp at this;omega
  ·cases h
theorem t1N {ops:Array Oper}:∀(l:List Oper) (i:Nat) (ancs:List Nat) (foot:List (Nat×Nat)) (s:St) (v:AV) (cl:List (Option Cls)) (s':St) (r2:AV×St),h1b P cfg call f (ops.toList.map (·.dst)) l [] s=some (.panic v,cl,s')→
  r1d P cfg f ops (ops.toList.map (·.dst)) v l cl.reverse i ancs foot s'=some r2→c1S P cfg call f ops none l i ancs foot s=some r2:=by
 intro l
 induction l with
 |nil=>intro i ancs foot s v cl s' r2 h _;simp [h1b] at h
 |cons o r ih=>
  intro i ancs foot s v cl s' r2 h hc
  have hgt:(match o.guard with|none=>none|some (j,_)=>(ops.toList.map (·.dst)).getD j none)=g1E ops o:=by
   unfold g1E
   cases o.guard with
   |none=>rfl
   |some p=>
    obtain⟨j,want⟩:=p
    simp only[List.getD_eq_getElem?_getD,List.getElem?_map,Array.getElem?_toList]
    cases ops[j]?<;>rfl
  simp only[h1b] at h
  split at h
  ·rename_i hw
   have hR:d1s cfg f ops o s=sR f (ops.toList.map (·.dst)) o (some (acls cfg f o (vals s.tmps o.op.operands.toList (b1v cfg f o)))):=by
    unfold d1s sR
    rw[hgt,←c1B,hw]
    cases acls cfg f o (vals s.tmps o.op.operands.toList (b1v cfg f o))<;>rfl
   have hW:b1U cfg f ops o s=sW cfg f o (some (acls cfg f o (vals s.tmps o.op.operands.toList (b1v cfg f o)))):=by
    unfold b1U sW
    rw[←c1B,hw]
    generalize acls cfg f o (vals s.tmps o.op.operands.toList (b1v cfg f o))=c
    cases c with
    |pure=>rfl
    |loc l w=>cases w<;>rfl
    |glob w=>cases w<;>rfl
   split at h
   ·rename_i s1 e
    obtain⟨new,e1,e2⟩:=l1I _ _ _ _ _ _ h
    have hlen:=x1o _ _ _ _ _ _ h
    subst e1
    have h2:=e2 []
    simp only[List.append_nil] at h2
    simp only[List.reverse_append,List.reverse_cons,List.reverse_nil,List.nil_append,List.cons_append,r1d] at hc
    split at hc
    ·cases hc
    ·rename_i hok
     simp only[Bool.and_eq_true] at hok
     split at hc
     ·rename_i hn
      have:new=[]:=by simpa using hn
      subst this
      simp at hlen
     ·rename_i c2 cl2 hn
      rw[←hn] at hc
      simp only[c1S,i1b,hR,hW,hok.1,hok.2,d1p,←c1B,hw,e]
      exact ih _ _ _ _ _ _ _ _ h2 hc
   ·rename_i v1 s1 e
    simp only[Option.some.injEq,Prod.mk.injEq,AX.panic.injEq] at h
    obtain⟨rfl,rfl,rfl⟩:=h
    simp only[List.reverse_cons,List.reverse_nil,List.nil_append,r1d] at hc
    split at hc
    ·cases hc
    ·rename_i hok
     simp only[Bool.and_eq_true] at hok
     split at hc
     ·rename_i hrw
      simp only[c1S,i1b,hR,hW,hok.1,hok.2,d1p,←c1B,hw,e,hrw]
      exact o1L b2d hc
     ·cases hc
   ·cases h
  ·rename_i hw
   obtain⟨new,e1,e2⟩:=l1I _ _ _ _ _ _ h
   have hlen:=x1o _ _ _ _ _ _ h
   subst e1
   have h2:=e2 []
   simp only[List.append_nil] at h2
   simp only[List.reverse_append,List.reverse_cons,List.reverse_nil,List.nil_append,List.cons_append,r1d] at hc
   have hR:d1s cfg f ops o s=sR f (ops.toList.map (·.dst)) o none:=by
    unfold d1s sR
    rw[hgt,←c1B,hw]
   have hW:b1U cfg f ops o s=sW cfg f o none:=by
    unfold b1U sW
    rw[←c1B,hw]
   split at hc
   ·cases hc
   ·rename_i hok
    simp only[Bool.and_eq_true] at hok
    split at hc
    ·rename_i hn
     have:new=[]:=by simpa using hn
     subst this
     simp at hlen
    ·rename_i c2 cl2 hn
     rw[←hn] at hc
     simp only[c1S,i1b,hR,hW,hok.1,hok.2,d1p,←c1B,hw]
     exact ih _ _ _ _ _ _ _ _ h2 hc
  ·cases h
def Then (K:St→Prop) (Q:AX→St→Prop):AX→St→Prop
 | .normal,s=>K s
 |x,s=>Q x s
theorem g2U {b:Nat} {c:Code} {Q:AX→St→Prop} {s:St} (I:Nat→St→Prop) (n:Nat) (h0:∃s0,f1u (d1H (cfg f).live b) s=some s0∧I n s0)
  (hr:∀n s,I n s→∀K:St→Prop,(∀s' m,m<n→(∃s0,f1u (d1H (cfg f).live b) s'=some s0∧I m s0)→K s')→WC P cfg call f b c (Then K Q) s):WC P cfg call f b (.loop c) Q s:=by
 have key:∀n s,(∃s0,f1u (d1H (cfg f).live b) s=some s0∧I n s0)→∃x s',v1I (d1H (cfg f).live b) (c1O P cfg call f b c) s=some (x,s')∧Q x s':=by
  intro n
  induction n using Nat.strongRecOn with
  |_ n ih=>
   intro s ⟨s0,hm,hI⟩
   obtain⟨x,s1,h1,h2⟩:=hr n s0 hI (fun s'=>∃m,m<n∧∃s0,f1u (d1H (cfg f).live b) s'=some s0∧I m s0) (fun s' m hm h=>⟨m,hm,h⟩)
   cases x with
   |normal=>
    obtain⟨m,hmn,h3⟩:=h2
    obtain⟨y,s2,h4,h5⟩:=ih m hmn s1 h3
    exact⟨y,s2,y1w hm h1 h4,h5⟩
   |exit id=>exact⟨_,s1,o1Q hm h1 (by simp),h2⟩
   |ret=>exact⟨_,s1,o1Q hm h1 (by simp),h2⟩
   |panic v=>exact⟨_,s1,o1Q hm h1 (by simp),h2⟩
 obtain⟨x,s',h1,h2⟩:=key n s h0
 exact⟨x,s',by simpa only[c1O] using h1,h2⟩
variable {dsts:List (Option Tmp)} {r:List Oper} {acc:List (Option Cls)} {Q:List (Option Cls)→AX→St→Prop}
end
end Go.Eng
end
