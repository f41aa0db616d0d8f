/- Texts of this proof folded into one: E1 E2 E3. -/
import Derived.Calls
import Derived.Defers
import Derived.Recover
import Derived.Orders
import Derived.Laws.Sem
import Derived.Laws.AppendOwn
import Derived.Laws.CopyRow
import Derived.Laws.Entries
import Derived.ChangeKeysEq
import Derived.Laws.Slices
import Derived.Laws.BytesString
section
/-
  THE ENGINE, part 1: an abstract interpreter of the model's code over values without addresses (the definitions alone).
  Slices are lists of rows, structs are lists of cells, boxes that nobody writes are their content; what is written lies in a heap of its own, by number.
  Nothing here speaks of one program.
-/
set_option linter.unusedVariables false
set_option linter.unusedSimpArgs false
namespace Go.Eng
inductive Own|no|full|yes
 deriving DecidableEq,Repr,Inhabited
inductive AV where
 |any
 |val (v:Value)
 |slice (sz:Nat) (rows:List (List AV)) (own:Own)
 |ref (cells:List AV)
 |ptr (id off:Nat)
 |lp (t gen off:Nat)
 |func (fn:Fn) (first captured:List AV)
 |iface (t:TypeId) (v:AV)
 |agg (cells:List AV)
 |tuple (vs:List AV)
 deriving Inhabited
abbrev Heap:=List (List AV)
structure FCfg where
 imm:Nat:=0
 loc:Nat:=0
 mv:Nat:=0
 takes:Nat:=0
 live:List (Nat×Nat):=[]
 ext:Bool:=false
 norm:Bool:=false
 deriving Inhabited
inductive RM where
 |none
 |returning
 |panicking (v:AV) (recovered:Bool)
 deriving Inhabited
inductive Out where
 |ret (v:AV)
 |panic (v:AV)
 deriving Inhabited
structure CRes where
 out:Out
 rm:RM
 H:Heap
 deriving Inhabited
structure ADef where
 f:FuncId
 args:List AV
 deriving Inhabited
structure G where
 H:Heap
 defers:List ADef
 rm:RM
 base:Nat
 deriving Inhabited
abbrev LCell:=Nat×List AV
structure St where
 tmps:List AV
 lh:List (Option LCell)
 g:G
 deriving Inhabited
def g1A (P:Program) {α:Type}:Sem α→Option α
 | .pure a=>some a
 | .program k=>g1A P (k P)
 | .mark _ k=>g1A P k
 |_=>none
def ofCell:Value→AV
 | .slice none 0 0=>.slice 0 [] .full
 | .func fn f c=>.func fn (f.toList.map .val) (c.toList.map .val)
 |v=>.val v
def ofVal:Value→AV
 | .agg cs=>if cs.toList.all Value.oneCell'=true then .agg (cs.toList.map ofCell) else .val (.agg cs)
 |v=>ofCell v
def AV.dis:AV→AV
 | .slice sz rows .yes=>.slice sz rows .no
 |v=>v
def AV.cells:AV→Option (List AV)
 | .agg cs=>some cs
 | .any=>none
 | .lp _ _ _=>none
 | .tuple _=>none
 | .val v=>match v with| .agg _=>none| .tuple _=>none|v=>some [.val v]
 |v=>some [v]
def AV.scells (v:AV):Option (List AV):=
 match v with
 | .slice sz rows own=>some [.slice sz rows own]
 |v=>v.cells.map (·.map AV.dis)
def h1B:List AV→Option (List Value)
 |[]=>some []
 | .val v::l=>(h1B l).map (v:: ·)
 |_::_=>none
def AV.toVal:AV→Option Value
 | .val v=>some v
 | .agg cs=>(h1B cs).map fun l=>.agg l.toArray
 | .iface t (.val v)=>some (.iface t v)
 |_=>none
def AV.isLp:AV→Bool
 | .lp _ _ _=>true
 |_=>false
def e1I (s:List AV):Operand→AV
 | .tmp t=>s.getD t .any
 | .const v=>ofVal v
 | .global g=>.val (.pointer (some ⟨g,0,none⟩))
 | .func f=>.func (.func f) [] []
section
variable (P:Program)
def zeroCells (t:TypeId):Option (List AV):=
 match (P.info? t).bind (·.zero) with
 |some v=>if v.cells.toList.all Value.oneCell'=true then some (v.cells.toList.map ofCell) else none
 |none=>none
def size? (t:TypeId):Option Nat:=(P.info? t).map (·.size)
def isAgg? (t:TypeId):Option Bool:=(P.underlying t).map fun| .struct _=>true| .array _ _=>true|_=>false
def c1M (t:TypeId) (cs:List AV) (off:Nat):Option AV:=
 match isAgg? P t with
 |some true=>match size? P t with
  |some n=>if off+n≤cs.length then some (.agg (((cs.drop off).take n).map AV.dis)) else none
  |none=>none
 |some false=>(cs[off]?).map AV.dis
 |none=>none
def b1M (cs:List AV) (off:Nat):List AV→List AV
 |[]=>cs
 |v::r=>b1M (cs.set off v) (off+1) r
def place? (t:TypeId) (i:Nat):Option (Nat×Nat):=
 match P.underlying t with
 |some (.struct fs)=>(fs[i]?).bind fun f=>(size? P f.type).map fun n=>(f.offset,n)
 |some (.array _ e)=>(size? P e).map fun n=>(i*n,n)
 |some (.slice e)=>(size? P e).map fun n=>(i*n,n)
 |_=>none
def l1w (t:TypeId) (cells:List AV):List (Nat×AV)→Option (List AV)
 |[]=>some cells
 |(i,v)::rest=>
  match place? P t i,v.cells with
  |some (off,n),some cs=>if cs.length=n∧off+n≤cells.length then l1w t (b1M cells off (cs.map AV.dis)) rest else none
  |_,_=>none
def h1C (sz:Nat):Nat→List AV→List (List AV)
 |0,_=>[]
 |n+1,l=>l.take sz::h1C sz n (l.drop sz)
def f1P (zero:List AV) (n:Nat):List AV:=(List.replicate n zero).flatten
def g1D (P:Program) (t:TypeId) (a b:AV):Option Bool:=
 match P.underlying t,a,b with
 |some (.pointer _),.val (.pointer none),.ref _=>some false
 |some (.pointer _),.val (.pointer none),.ptr _ _=>some false
 |some (.pointer _),.val (.pointer none),.lp _ _ _=>some false
 |some (.pointer _),.ref _,.val (.pointer none)=>some false
 |some (.pointer _),.ptr _ _,.val (.pointer none)=>some false
 |some (.pointer _),.lp _ _ _,.val (.pointer none)=>some false
 |some (.interface _),.iface _ _,.val .nilIface=>some false
 |some (.interface _),.val .nilIface,.iface _ _=>some false
 |some (.func ..),.func _ _ _,.val .nilFunc=>some false
 |some (.func ..),.val .nilFunc,.func _ _ _=>some false
 |_,_,_=>none
def abin (op:BinOp) (t:TypeId) (x y:Operand) (a b:AV):Option AV:=
 match a.toVal,b.toVal with
 |some va,some vb=>(g1A P (do eqGuard op t x y va vb;binOp op t va vb)).map ofVal
 |_,_=>match op with
  | .eql=>(g1D P t a b).map fun r=>.val (.bool r)
  | .neq=>(g1D P t a b).map fun r=>.val (.bool (!r))
  |_=>none
def b1V:List (List AV)→Option (List UInt8)
 |[]=>some []
 |[.val (.int .u8 n)]::r=>(b1V r).map (UInt8.ofNat n.toNat:: ·)
 |_::_=>none
def g1d (src dst:TypeId) (a:AV):Option AV:=
 match a with
 | .val v=>(g1A P (convert src dst v)).map ofVal
 | .slice _ rows _=>match P.underlying src,P.underlying dst with
  |some (.slice e),some .string=>match P.underlying e,b1V rows with
   |some (.int .u8),some l=>some (.val (.string ⟨l.toArray⟩))
   |_,_=>none
  |_,_=>none
 |_=>none
def bound? (x:Option AV) (dflt most:Nat):Option Nat:=
 match x with
 |none=>some dflt
 |some (.val (.int _ i))=>if 0≤i∧i≤(most:Int) then some i.toNat else none
 |_=>none
def k1I (t:TypeId) (a:AV) (lo hi mx:Option AV):Option AV:=
 match P.underlying t,a with
 |some .string,.val (.string s)=>
  match mx,bound? hi s.size s.size with
  |none,some h=>match bound? lo 0 h with
   |some l=>some (.val (.string (s.extract l h)))
   |none=>none
  |_,_=>none
 |some (.slice e),.slice sz rows own=>match size? P e with
  |some n=>if rows=[]∨n=sz then match mx with
    |none=>match bound? hi rows.length rows.length with
     |some h=>match bound? lo 0 h with
      |some l=>some (.slice sz ((rows.drop l).take (h-l)) (if h=rows.length∧own=.full then .full else .no))
      |none=>none
     |none=>none
    |some m=>match hi with
     |none=>none
     |some hi=>match bound? (some m) 0 rows.length with
      |some m=>match bound? (some hi) 0 m with
       |some h=>match bound? lo 0 h with
        |some l=>some (.slice sz ((rows.drop l).take (h-l)) (if h=m then .full else .no))
        |none=>none
       |none=>none
      |none=>none
   else none
  |none=>none
 |_,_=>none
def g1R (t:TypeId) (a:AV) (i:Nat):Option AV:=
 match P.underlying t with
 |some (.struct fs)=>match fs[i]? with
  |some f=>match size? P f.type with
   |some (_+1)=>match a with
    | .ref cs=>if f.offset≤cs.length then some (.ref (cs.drop f.offset)) else none
    | .ptr id o=>some (.ptr id (o+f.offset))
    | .lp t g o=>some (.lp t g (o+f.offset))
    |_=>none
   |_=>none
  |none=>none
 |_=>none
def y1f (t:TypeId) (cs:List AV) (off:Nat):Option AV:=c1M P t cs off
def o1A (t:TypeId) (a:AV) (i:Nat):Option AV:=
 match P.underlying t,a with
 |some (.struct fs),.agg cs=>match fs[i]? with
  |some f=>y1f P f.type cs f.offset
  |none=>none
 |_,_=>none
def f1Q (t:TypeId) (a ix:AV):Option AV:=
 match P.underlying t,ix with
 |some (.slice e),.val (.int _ i)=>match a with
  | .slice sz rows _=>if 0≤i then match rows[i.toNat]? with
    |some r=>if size? P e=some sz then some (.ref r) else none
    |none=>none
   else none
  |_=>none
 |some (.array len e),.val (.int _ i)=>if 0≤i∧i<(len:Int) then match size? P e with
   |some n=>match a with
    | .ref cs=>if i.toNat*n≤cs.length then some (.ref (cs.drop (i.toNat*n))) else none
    | .ptr id o=>some (.ptr id (o+i.toNat*n))
    | .lp t g o=>some (.lp t g (o+i.toNat*n))
    |_=>none
   |none=>none
  else none
 |_,_=>none
def l1x (t:TypeId) (a ix:AV):Option AV:=
 match P.underlying t,a,ix with
 |some (.array len e),.agg cs,.val (.int _ i)=>if 0≤i∧i<(len:Int) then match size? P e with
   |some n=>y1f P e cs (i.toNat*n)
   |none=>none
  else none
 |some .string,.val (.string s),.val (.int _ i)=>if 0≤i then (s[i.toNat]?).map fun b=>.val (.int .u8 b.toNat) else none
 |_,_,_=>none
def e1X (a:AV) (asserted:TypeId) (ok:Bool):Option AV:=
 let fails:Option AV:=if ok then match (P.info? asserted).bind (·.zero) with
   |some z=>some (.tuple [ofVal z,.val (.bool false)])
   |none=>none
  else none
 match P.underlying asserted with
 |some (.interface _)=>none
 |none=>none
 |some _=>match a with
  | .iface t v=>if t=asserted then some (if ok then .tuple [v,.val (.bool true)] else v.dis) else fails
  | .val .nilIface=>fails
  |_=>none
def alen (t:TypeId) (a:AV):Option AV:=
 match P.underlying t,a with
 |some (.slice _),.slice _ rows _=>some (.val (.int .i64 rows.length))
 |some .string,.val (.string s)=>some (.val (.int .i64 s.size))
 |_,_=>none
def f1s:AV→Option (Nat×List (List AV))
 | .slice sz rows _=>some (sz,rows)
 | .val (.string s)=>some (1,s.data.toList.map fun b=>[.val (.int .u8 b.toNat)])
 |_=>none
def f1R (ts:Array TypeId) (a b:AV):Option AV:=
 match ts[0]?,ts[1]? with
 |some st,some xt=>match P.underlying st,P.underlying xt with
  |some (.slice e),some xd=>match xd with
   | .int _=>none
   |_=>match a,f1s b,P.info? e with
    | .slice sz rows own,some (sz',new),some i=>
     if new=[] then some (.slice sz rows own)
     else if (sz=i.size∨(rows=[]∧own=.full))∧sz'=i.size∧own≠ .no∧rows.length+new.length≤2147483648∧i.bytes≤4096∧i.zero.map (·.cells.size)=some i.size then
      some (.slice i.size (rows++new.map (·.map AV.dis)) .yes)
     else none
    |_,_,_=>none
  |_,_=>none
 |_,_=>none
def f1a (t:TypeId) (len cap:AV):Option AV:=
 match P.underlying t,len,cap with
 |some (.slice e),.val (.int _ l),.val (.int _ c)=>match P.info? e with
  |some i=>match i.zero with
   |some z=>if 0≤l∧l≤c∧c≤2147483648∧i.bytes≤4096∧0<i.size∧z.cells.size=i.size∧z.cells.toList.all Value.oneCell'=true then
     some (.slice i.size (List.replicate l.toNat (z.cells.toList.map ofCell)) (if l=c then .full else .yes))
    else none
   |none=>none
  |none=>none
 |_,_,_=>none
def g1w:List AV→Option (List Value)
 |[]=>some []
 |a::r=>match a.toVal,g1w r with
  |some v,some l=>some (v::l)
  |_,_=>none
end
inductive Cls where
 |pure
 |loc (l:Nat) (write:Bool)
 |glob (write:Bool)
 deriving Inhabited
inductive GR where
 |val (v:AV) (g:G)
 |panic (v:AV) (g:G)
 deriving Inhabited
section
variable (P:Program) (cfg:FuncId→FCfg) (call:FuncId→List AV→RM→Heap→Option CRes)
def q1V (m:Nat) (d:Option Tmp):Bool:=
 match d with
 |some t=>m.testBit t
 |none=>false
def a2N (m:Nat):Nat→List Operand→List Bool
 |_,[]=>[]
 |i,_::r=>m.testBit i::a2N m (i+1) r
def b1v (f:FuncId) (o:Oper):List Bool:=
 match o.op with
 | .move _=>[q1V (cfg f).mv o.dst]
 | .assign _=>[q1V (cfg f).mv o.dst]
 | .store _ _ _=>[false,true]
 | .call c=>match c.callee with
  | .builtin .append=>[true]
  | .value (.func g)=>false::a2N (cfg g).takes 0 c.args.toList
  |_=>[]
 |_=>[]
def vals (s:List AV):List Operand→List Bool→List AV
 |[],_=>[]
 |x::r,b::bs=>(if b then e1I s x else (e1I s x).dis)::vals s r bs
 |x::r,[]=>(e1I s x).dis::vals s r []
def disT (s:List AV):List Operand→List Bool→List AV
 | .tmp t::r,true::bs=>disT (s.modify t AV.dis) r bs
 |_::r,_::bs=>disT s r bs
 |_,_=>s
def a1q:List Operand→List Bool→List Tmp
 | .tmp t::r,true::bs=>t::a1q r bs
 |_::r,_::bs=>a1q r bs
 |_,_=>[]
def acls (f:FuncId) (o:Oper) (vs:List AV):Cls:=
 match o.op with
 | .alloc _| .box _ _=>match o.dst with
  |some t=>if (cfg f).imm.testBit t then .pure else if (cfg f).loc.testBit t then .loc t true else .glob true
  |none=>.glob true
 | .load _ _=>match vs with
  |[.ptr _ _]=>.glob (q1V (cfg f).mv o.dst)
  |[.lp l _ _]=>.loc l (q1V (cfg f).mv o.dst)
  |_=>.pure
 | .store _ _ _=>match vs with
  | .lp l _ _::_=>.loc l true
  |_=>.glob true
 | .call c=>match c.callee with
  | .builtin .recover=>.glob true
  | .builtin _=>.pure
  |_=>.glob true
 | .defer _=>.glob true
 | .panic _=>.glob true
 |_=>.pure
def c1D (o:Oper) (vs:List AV):Option (List AV):=
 match o.op,vs with
 | .alloc e,[]=>zeroCells P e
 | .box _ _,[v]=>v.cells.map (·.map AV.dis)
 |_,_=>none
def f1t {α:Type}:List (Nat×α)→List AV→List (Nat×AV)
 |(i,_)::r,v::vs=>(i,v)::f1t r vs
 |_,_=>[]
def g1e (o:Oper) (b:Builtin) (ts:Array TypeId) (vs:List AV):Option AV:=
 match b,vs with
 | .len,[x]=>match ts[0]? with
  |some t=>alen P t x
  |none=>none
 | .append,[x,y]=>f1R P ts x y
 | .max,l=>match g1w l with
  |some vs=>(g1A P (Builtin.max_ ts o.type vs.toArray)).map ofVal
  |none=>none
 | .min,l=>match g1w l with
  |some vs=>(g1A P (Builtin.min_ ts o.type vs.toArray)).map ofVal
  |none=>none
 |_,_=>none
def a1D (t:TypeId) (v:AV):AV:=
 match v with
 | .slice sz rows own=>match P.underlying t with
  |some (.slice e)=>match size? P e with
   |some n=>match decide (sz=n) with
    |true=>.slice sz rows .no
    |false=>match rows with
     |[]=>.slice n [] .no
     |r::l=>.slice sz (r::l) own
   |none=>.slice sz rows own
  |_=>.slice sz rows own
 |v=>v
def h1D:List TypeId→List AV→List AV
 |t::ts,v::vs=>a1D P t v::h1D ts vs
 |_,vs=>vs
def e1Y (e:TypeId) (r:List AV):List AV:=
 match P.underlying e with
 |some (.struct fs)=>match fs.toList.all fun f=>decide (size? P f.type=some 1) with
  |true=>h1D P (fs.toList.map (·.type)) r
  |false=>r
 |_=>h1D P [e] r
def f1S (t:TypeId) (n:Nat) (ps:List (Nat×AV)):Option AV:=
 match P.underlying t with
 |some (.slice e)=>match P.info? e with
  |some i=>match i.zero with
   |some z=>if z.cells.size=i.size∧0<i.size∧n*i.size≤16777216∧z.cells.toList.all Value.oneCell'=true then
     (l1w P t (f1P (z.cells.toList.map ofCell) n) ps).map fun cs=>.slice i.size ((h1C i.size n cs).map (e1Y P e)) .full
    else none
   |none=>none
  |none=>none
 |_=>none
def q1W (t:TypeId) (ps:List (Nat×AV)):Option AV:=
 match P.underlying t with
 |some (.struct fs)=>if fs.toList.all (fun f=>(size? P f.type).isSome)=true then match zeroCells P t with
   |some z=>(l1w P t z ps).map .agg
   |none=>none
  else none
 |some (.array _ e)=>match zeroCells P t,size? P e with
  |some z,some _=>(l1w P t z ps).map .agg
  |_,_=>none
 |_=>none
def g1V:AV→Option AV
 | .ref cs=>some (.ref cs)
 | .ptr id k=>some (.ptr id k)
 | .lp t g k=>some (.lp t g k)
 | .func (.func g) a b=>some (.func (.func g) a b)
 |_=>none
def e1h (t:TypeId) (v:AV):Option AV:=
 match P.underlying t with
 |some (.interface _)=>none
 |none=>none
 |some _=>if v.isLp then none else some (.iface t v)
def g1f (v:AV) (i:Nat):Option AV:=
 match v with
 | .tuple vs=>(vs[i]?).map AV.dis
 | .val (.tuple vs)=>(vs[i]?).map ofVal
 |_=>none
def j1P (o:Oper) (vs:List AV):Option AV:=
 match o.op,vs with
 | .move _,[v]=>some v
 | .assign _,[v]=>some v
 | .pick _ _ _,[c,a,b]=>match c with
  | .val (.bool true)=>some a
  | .val (.bool false)=>some b
  |_=>none
 | .alloc _,_=>(c1D P o vs).map .ref
 | .box _ _,_=>(c1D P o vs).map .ref
 | .build t ps,vs=>if vs.any AV.isLp then none else q1W P t (f1t ps.toList vs)
 | .buildSlice t n ps,vs=>if vs.any AV.isLp then none else f1S P t n (f1t ps.toList vs)
 | .load t _,[.ref cs]=>c1M P t cs 0
 | .nilCheck _,[v]=>g1V v
 | .binOp op t x y _,[a,b]=>abin P op t x y a b
 | .unOp op _ _,[v]=>match v.toVal with
  |some w=>(g1A P (Op.unary op w)).map ofVal
  |none=>none
 | .convert a b _,[v]=>g1d P a b v
 | .makeInterface t _,[v]=>e1h P t v
 | .makeFunc fn a b,vs=>if vs.any AV.isLp then none else some (.func fn (vs.take a.size) (vs.drop a.size))
 | .makeSlice t _ _,[l,c]=>f1a P t l c
 | .slice t _ l h m,x::r=>
  let lo:=if l.isSome then r.head? else none
  let r1:=if l.isSome then r.tail else r
  let hi:=if h.isSome then r1.head? else none
  let r2:=if h.isSome then r1.tail else r1
  let mx:=if m.isSome then r2.head? else none
  if l.isSome=lo.isSome∧h.isSome=hi.isSome∧m.isSome=mx.isSome∧(x::r).any AV.isLp=false then k1I P t x lo hi mx else none
 | .fieldAddr t _ i,[v]=>g1R P t v i
 | .field t _ i,[v]=>o1A P t v i
 | .indexAddr t _ _,[v,i]=>f1Q P t v i
 | .index t _ _,[v,i]=>l1x P t v i
 | .typeAssert _ _ t ok,[v]=>e1X P v t ok
 | .extract _ i,[v]=>g1f v i
 | .call c,vs=>match c.callee with
  | .builtin b=>g1e P o b c.argTypes vs
  |_=>none
 |_,_=>none
def aloc (f:FuncId) (o:Oper) (vs:List AV) (c:Option LCell):Option (AV×Option LCell):=
 match o.op,vs with
 | .alloc _,_| .box _ _,_=>match o.dst,c1D P o vs with
  |some t,some cs=>match c with
   |none=>some (.lp t 0 0,some (0,cs))
   |some (g,_)=>some (.lp t (g+1) 0,some (g+1,cs))
  |_,_=>none
 | .load t _,[.lp _ g off]=>match c with
  |some (g',cs)=>if g=g' then
    if q1V (cfg f).mv o.dst then match isAgg? P t,cs[off]? with
     |some false,some v=>some (v,some (g,cs.set off v.dis))
     |_,_=>none
    else (c1M P t cs off).map fun v=>(v,some (g,cs))
   else none
  |none=>none
 | .store t _ _,[.lp _ g off,v]=>match c,v.scells,size? P t with
  |some (g',cs),some new,some n=>if g=g'∧new.length=n∧off+n≤cs.length then
    some (.val undef,some (g,b1M cs off new)) else none
  |_,_,_=>none
 |_,_=>none
def g1W (g:FuncId) (args:List AV) (m:G):Option GR:=
 if args.any AV.isLp then none else
 match call g args .none m.H with
 |some ⟨.ret v,_,H⟩=>some (.val v {m with H:=H})
 |some ⟨.panic v,_,H⟩=>some (.panic v {m with H:=H})
 |none=>none
def h1E (m:G):Option GR:=
 match m.rm with
 | .none=>none
 | .returning=>some (.val (.val .nilIface) m)
 | .panicking v false=>some (.val v.dis {m with rm:=.panicking v true})
 | .panicking _ true=>some (.val (.val .nilIface) m)
def f1T (f:FuncId) (o:Oper) (vs:List AV) (m:G):Option GR:=
 match o.op,vs with
 | .alloc _,_| .box _ _,_=>match c1D P o vs with
  |some cs=>some (.val (.ptr m.H.length 0) {m with H:=m.H++[cs]})
  |none=>none
 | .load t _,[.ptr id off]=>match m.H[id]? with
  |some cs=>if q1V (cfg f).mv o.dst then match isAgg? P t,cs[off]? with
    |some false,some v=>some (.val v {m with H:=m.H.set id (cs.set off v.dis)})
    |_,_=>none
   else (c1M P t cs off).map fun v=>.val v m
  |none=>none
 | .store t _ _,[.ptr id off,v]=>match m.H[id]?,v.scells,size? P t with
  |some cs,some new,some n=>if new.length=n∧off+n≤cs.length then
    some (.val (.val undef) {m with H:=m.H.set id (b1M cs off new)}) else none
  |_,_,_=>none
 | .call c,vs=>match c.callee with
  | .builtin .recover=>if vs=[] then h1E m else none
  | .value _=>match vs with
   | .func (.func g) first captured::args=>g1W call g (first.map AV.dis++args++captured.map AV.dis) m
   |_=>none
  |_=>none
 | .defer c,vs=>match c.callee with
  | .value _=>match vs with
   | .func (.func g) first captured::args=>if (first++args++captured).any AV.isLp then none else some (.val (.val undef) {m with defers:=⟨g,(first++args++captured).map AV.dis⟩::m.defers})
   |_=>none
  |_=>none
 | .panic _,[.iface t v]=>some (.panic (.iface t v) m)
 |_,_=>none
inductive SR where
 |next (s:St)
 |panic (v:AV) (s:St)
 deriving Inhabited
def putT (s:List AV) (d:Option Tmp) (v:AV):List AV:=
 match d with
 |some t=>s.set t v
 |none=>s
def aop (f:FuncId) (o:Oper) (s:St):Option SR:=
 let xs:=o.op.operands.toList
 let ms:=b1v cfg f o
 let vs:=vals s.tmps xs ms
 let ts:=disT s.tmps xs ms
 if (a1q xs ms).Nodup then
  match acls cfg f o vs with
  | .pure=>match j1P P o vs with
   |some v=>some (.next {s with tmps:=putT ts o.dst v})
   |none=>none
  | .loc l _=>match s.lh[l]? with
   |some c=>match aloc P cfg f o vs c with
    |some (v,c')=>some (.next {s with tmps:=putT ts o.dst v,lh:=s.lh.set l c'})
    |none=>none
   |none=>none
  | .glob _=>match f1T P cfg call f o vs s.g with
   |some (.val v g)=>some (.next {s with tmps:=putT ts o.dst v,g:=g})
   |some (.panic v g)=>some (.panic v {s with tmps:=ts,g:=g})
   |none=>none
 else none
def g1E (ops:Array Oper) (o:Oper):Option Tmp:=
 match o.guard with
 |none=>none
 |some (j,_)=>(ops[j]?).bind (·.dst)
def e1n (ops:Array Oper) (o:Oper) (ts:List AV):Option Bool:=
 match o.guard with
 |none=>some true
 |some (j,want)=>match (ops[j]?).bind (·.dst) with
  |none=>some false
  |some t=>match ts[t]? with
   |none=>some false
   |some (.val (.bool b))=>some (b==want)
   |some (.val _)=>some false
   |some _=>none
def d1p (f:FuncId) (ops:Array Oper) (o:Oper) (s:St):Option SR:=
 match e1n ops o s.tmps with
 |some true=>aop P cfg call f o s
 |some false=>some (.next {s with tmps:=putT s.tmps o.dst (.val undef)})
 |none=>none
inductive AX where
 |normal
 |exit (id:Nat)
 |ret
 |panic (v:AV)
 deriving Inhabited
def aops (f:FuncId) (ops:Array Oper):List Nat→St→Option (AX×St)
 |[],s=>some (.normal,s)
 |i::r,s=>match ops[i]? with
  |none=>none
  |some o=>match d1p P cfg call f ops o s with
   |some (.next s')=>aops f ops r s'
   |some (.panic v s')=>some (.panic v,s')
   |none=>none
def i1X:List Operand→Nat
 |[]=>0
 | .tmp t::r=>2^(2*t+2)|||i1X r
 |_::r=>i1X r
def l1y:Option Tmp→Nat
 |some t=>2^(2*t+2)
 |none=>0
def h1F:List Tmp→Nat
 |[]=>0
 |t::r=>2^(2*t+2)|||h1F r
def d1s (f:FuncId) (ops:Array Oper) (o:Oper) (s:St):Nat:=
 i1X o.op.operands.toList|||l1y (g1E ops o)|||
  match e1n ops o s.tmps with
  |some true=>match acls cfg f o (vals s.tmps o.op.operands.toList (b1v cfg f o)) with
   | .pure=>0
   | .loc l _=>2^(2*l+1)
   | .glob _=>1
  |_=>0
def b1U (f:FuncId) (ops:Array Oper) (o:Oper) (s:St):Nat:=
 l1y o.dst|||h1F (a1q o.op.operands.toList (b1v cfg f o))|||
  match e1n ops o s.tmps with
  |some true=>match acls cfg f o (vals s.tmps o.op.operands.toList (b1v cfg f o)) with
   | .loc l true=>2^(2*l+1)
   | .glob true=>1
   |_=>0
  |_=>0
def ancBits (anc:List Nat):List Edge→Nat
 |[]=>0
 |e::r=>(if Region.binds .any e then 2^e.on|||anc.getD e.on 0 else 0)|||ancBits anc r
def edgesDown (i:Nat):List Edge→Bool
 |[]=>true
 |e::r=>(!Region.binds .any e||e.on<i)&&edgesDown i r
def apartFrom (anc R W:Nat):Nat→List (Nat×Nat)→Bool
 |_,[]=>true
 |j,(r,w)::l=>(anc.testBit j||((w &&& (R|||W))|||(r &&& W))==0)&&apartFrom anc R W (j+1) l
def g1X (f:FuncId) (ops:Array Oper):List Oper→(i:Nat)→(ancs:List Nat)→(foot:List (Nat×Nat))→St→Option St
 |[],_,_,_,s=>some s
 |o::r,i,ancs,foot,s=>
  let anc:=ancBits ancs o.after.toList
  let R:=d1s cfg f ops o s
  let W:=b1U cfg f ops o s
  if edgesDown i o.after.toList=true∧apartFrom anc R W 0 foot=true then
   match d1p P cfg call f ops o s with
   |some (.next s')=>g1X f ops r (i+1) (ancs++[anc]) (foot++[(R,W)]) s'
   |_=>none
  else none
def b1K (m:Nat):Nat→List AV→List AV
 |_,[]=>[]
 |i,v::r=>(if m.testBit i then v else .any)::b1K m (i+1) r
def e1a (m:Nat):Nat→List (Option LCell)→List (Option LCell)
 |_,[]=>[]
 |i,c::r=>(if m.testBit i then c else none)::e1a m (i+1) r
def i1b (pv:Option (Nat×AV)) (anc:Nat):Bool:=
 match pv with
 |none=>false
 |some (p,_)=>anc.testBit p
def c1S (f:FuncId) (ops:Array Oper):(pv:Option (Nat×AV))→List Oper→(i:Nat)→(ancs:List Nat)→(foot:List (Nat×Nat))→St→Option (AV×St)
 |none,[],_,_,_,_=>none
 |some (_,v),[],_,_,_,s=>some (v,s)
 |pv,o::r,i,ancs,foot,s=>
  match edgesDown i o.after.toList with
  |false=>none
  |true=>match i1b pv (ancBits ancs o.after.toList) with
   |true=>c1S f ops pv r (i+1) (ancs++[ancBits ancs o.after.toList]) (foot++[(0,0)]) s
   |false=>match apartFrom (ancBits ancs o.after.toList) (d1s cfg f ops o s) (b1U cfg f ops o s) 0 foot with
    |false=>none
    |true=>match d1p P cfg call f ops o s with
     |some (.next s')=>c1S f ops pv r (i+1) (ancs++[ancBits ancs o.after.toList]) (foot++[(d1s cfg f ops o s,b1U cfg f ops o s)]) s'
     |some (.panic v s')=>match pv,(d1s cfg f ops o s).testBit 0&&(b1U cfg f ops o s).testBit 0 with
      |none,true=>c1S f ops (some (i,v)) r (i+1) (ancs++[ancBits ancs o.after.toList]) (foot++[(d1s cfg f ops o s,b1U cfg f ops o s)]) s'
      |_,_=>none
     |none=>none
def g1Y (s:St):St:={s with tmps:=b1K 0 0 s.tmps,lh:=e1a 0 0 s.lh}
def lpIn (m:Nat):AV→Bool
 | .lp t _ _=>m.testBit t
 |_=>true
mutual
def AV.low (n:Nat):AV→Bool
 | .any=>true
 | .val _=>true
 | .slice _ rows _=>lowss n rows
 | .ref cs=>lows n cs
 | .ptr id _=>Nat.blt id n
 | .lp _ _ _=>true
 | .func _ a b=>lows n a&&lows n b
 | .iface _ v=>v.low n
 | .agg cs=>lows n cs
 | .tuple vs=>lows n vs
def lows (n:Nat):List AV→Bool
 |[]=>true
 |a::l=>a.low n&&lows n l
def lowss (n:Nat):List (List AV)→Bool
 |[]=>true
 |a::l=>lows n a&&lowss n l
end
def Out.low (n:Nat):Out→Bool
 | .ret v=>v.low n
 | .panic v=>v.low n
def lowL (n:Nat):List (Option LCell)→Bool
 |[]=>true
 |none::l=>lowL n l
 |some (_,cs)::l=>lows n cs&&lowL n l
def lowD (n:Nat):List ADef→Bool
 |[]=>true
 |d::l=>lows n d.args&&lowD n l
def a2O (n:Nat):RM→Bool
 | .panicking v _=>v.low n
 |_=>true
def v1w (n:Nat) (s:St):Bool:=lows n s.tmps&&(lowL n s.lh&&(lowD n s.g.defers&&(a2O n s.g.rm&&lowss n (s.g.H.take n))))
def v1x (s:St):St:=
 match Nat.ble s.g.H.length s.g.base with
 |true=>s
 |false=>match v1w s.g.base s with
  |true=>{s with g:={s.g with H:=s.g.H.take s.g.base}}
  |false=>s
def g2b:Nat:=1000
def f1u (live:Option Nat) (s:St):Option St:=
 match live with
 |none=>some s
 |some m=>if (b1K m 0 s.tmps).all (lpIn m)=true then match m.testBit g2b with
   |true=>some (v1x {s with tmps:=b1K m 0 s.tmps,lh:=e1a m 0 s.lh})
   |false=>some {s with tmps:=b1K m 0 s.tmps,lh:=e1a m 0 s.lh}
  else none
def d1H (l:List (Nat×Nat)) (b:Nat):Option Nat:=
 match l with
 |[]=>none
 |(k,m)::r=>if k=b then some m else d1H r b
def h1x (live:Option Nat) (body:St→Option (AX×St)):Nat→St→Option (AX×St)
 |0,_=>none
 |n+1,s=>match f1u live s with
  |none=>none
  |some s=>match body s with
   |some (.normal,s')=>h1x live body n s'
   |r=>r
def k1Q:Code→Nat
 | .region id _ _=>1000000+id
 | .seq a _=>k1Q a
 |_=>999999
def lpOf:List AV→Option (Nat×Nat)
 |[]=>none
 | .lp t g _::_=>some (t,g)
 |_::r=>lpOf r
def l1z (t g n:Nat):AV→AV
 | .lp t' g' off=>match decide (t'=t∧g'=g) with
  |true=>.ptr n off
  |false=>.lp t' g' off
 |a=>a
def g1g (t g n:Nat) (first args captured:List AV):List AV:=first.map AV.dis++args.map (l1z t g n)++captured.map AV.dis
def i1s (o:Oper) (ts:List AV) (s:St) (t g n:Nat) (r:CRes):Option SR:=
 match r.H.drop n with
 |[cs]=>match r.out.low n&&(lows n cs&&lowss n (r.H.take n)) with
  |true=>match r.out with
   | .ret v=>some (.next {tmps:=putT ts o.dst v,lh:=s.lh.set t (some (g,cs)),g:={s.g with H:=r.H.take n}})
   | .panic v=>some (.panic v {tmps:=ts,lh:=s.lh.set t (some (g,cs)),g:={s.g with H:=r.H.take n}})
  |false=>none
 |_=>none
def g1Z (f:FuncId) (o:Oper) (s:St):Option SR:=
 match decide (a1q o.op.operands.toList (b1v cfg f o)).Nodup&&o.guard.isNone with
 |false=>none
 |true=>match o.op with
  | .call c=>match c.callee,vals s.tmps o.op.operands.toList (b1v cfg f o) with
   | .value _,.func (.func g) first captured::args=>match lpOf args with
    |none=>none
    |some (t,gen)=>match s.lh[t]? with
     |some (some (gen',cs))=>match decide (gen=gen') with
      |false=>none
      |true=>match (g1g t gen s.g.H.length first args captured).any AV.isLp with
       |true=>none
       |false=>match call g (g1g t gen s.g.H.length first args captured) .none (s.g.H++[cs]) with
        |some r=>i1s o (disT s.tmps o.op.operands.toList (b1v cfg f o)) s t gen s.g.H.length r
        |none=>none
     |_=>none
   |_,_=>none
  |_=>none
def l1A (f:FuncId) (ops:Array Oper) (s:St):Option (AX×St):=
 match aops P cfg call f ops (List.range (ops.size-1)) s with
 |some (.normal,s1)=>match ops[ops.size-1]? with
  |some o=>match g1Z cfg call f o s1 with
   |some (.next s2)=>some (.normal,s2)
   |some (.panic v s2)=>some (.panic v,s2)
   |none=>none
  |none=>none
 |r=>r
def b1Y (k:Nat) (f:FuncId):(b:Nat)→Code→St→Option (AX×St)
 |_,.skip,s=>some (.normal,s)
 |_,.region id ops false,s=>match d1H (cfg f).live (2000000+id) with
  |none=>aops P cfg call f ops (List.range ops.size) s
  |some _=>l1A P cfg call f ops s
 |_,.region _ ops true,s=>match g1X P cfg call f ops ops.toList 0 [] [] s with
  |some s'=>some (.normal,s')
  |none=>match c1S P cfg call f ops none ops.toList 0 [] [] s with
   |some (v,s')=>some (.panic v,g1Y s')
   |none=>none
 |b,.seq x y,s=>match b1Y k f b x s with
  |some (.normal,s')=>match f1u (d1H (cfg f).live (k1Q y)) s' with
   |some s2=>b1Y k f b y s2
   |none=>none
  |r=>r
 |b,.cond c x y,s=>match e1I s.tmps c with
  | .val (.bool true)=>b1Y k f b x s
  | .val (.bool false)=>b1Y k f b y s
  |_=>none
 |_,.block id x,s=>match b1Y k f id x s with
  |some (.exit id',s')=>if id'=id then some (.normal,s') else some (.exit id',s')
  |r=>r
 |b,.loop x,s=>h1x (d1H (cfg f).live b) (b1Y k f b x) k s
 |_,.exit id,s=>some (.exit id,s)
 |_,.ret,s=>some (.ret,s)
 |b,.scope x,s=>b1Y k f b x s
 |_,.label _,s=>some (.normal,s)
 |_,_,_=>none
def m1t:RM→RM
 | .panicking _ true=>.returning
 |m=>m
def d1M:List ADef→RM→Heap→Option (RM×Heap)
 |[],m,H=>some (m,H)
 |d::r,m,H=>match call d.f d.args m H with
  |some ⟨.ret _,m',H'⟩=>d1M r (m1t m') H'
  |some ⟨.panic v,_,H'⟩=>d1M r (.panicking v false) H'
  |none=>none
def i1Y (s:St) (H:Heap):ResultVar→Option AV
 | .tmp t=>if (s.tmps.getD t .any).isLp then none else some (s.tmps.getD t .any)
 | .cell a t=>match s.tmps.getD a .any with
  | .ref cs=>c1M P t cs 0
  | .ptr id o=>match H[id]? with
   |some cs=>c1M P t cs o
   |none=>none
  | .lp l g o=>match s.lh[l]? with
   |some (some (g',cs))=>if g=g' then c1M P t cs o else none
   |_=>none
  |_=>none
def c1X (s:St) (H:Heap):List ResultVar→Option (List AV)
 |[]=>some []
 |r::rs=>match i1Y P s H r,c1X s H rs with
  |some v,some l=>some (v::l)
  |_,_=>none
def e1T:List AV→AV
 |[v]=>v
 |l=>.tuple (l.map AV.dis)
def d1w (fn:Func) (s:St) (m:RM):Option CRes:=
 match s.g.rm with
 | .none=>match d1M call s.g.defers m s.g.H with
  |some (.returning,H)=>match c1X P s H fn.results.toList with
   |some l=>some ⟨.ret (e1T l),.none,H⟩
   |none=>none
  |some (.panicking v false,H)=>some ⟨.panic v,.none,H⟩
  |_=>none
 |rm=>if s.g.defers.isEmpty then match m with
   | .returning=>match c1X P s s.g.H fn.results.toList with
    |some l=>some ⟨.ret (e1T l),rm,s.g.H⟩
    |none=>none
   | .panicking v false=>some ⟨.panic v,rm,s.g.H⟩
   |_=>none
  else none
def o1B (k:Nat) (f:FuncId) (fn:Func) (c:Code) (args:List AV) (rm:RM) (H:Heap):Option CRes:=
 match b1Y P cfg call k f 0 c ⟨args++List.replicate (fn.ntmps-args.length) (.val undef),List.replicate fn.ntmps none,⟨H,[],rm,H.length⟩⟩ with
 |some (.normal,s)=>d1w P call fn s .returning
 |some (.ret,s)=>d1w P call fn s .returning
 |some (.panic v,s)=>d1w P call fn s (.panicking v false)
 |_=>none
end
def cutRes (n:Nat) (r:CRes):CRes:=
 match Nat.ble r.H.length n with
 |true=>r
 |false=>match r.out.low n&&lowss n (r.H.take n) with
  |true=>⟨r.out,r.rm,r.H.take n⟩
  |false=>r
def a2P (rm:RM) (n:Nat) (r:CRes):CRes:=
 match rm with
 | .none=>cutRes n r
 |_=>r
def n1S (P:Program) (t:TypeId) (v:AV):AV:=
 match v with
 | .agg cs=>match P.underlying t with
  |some (.struct fs)=>match fs.toList.all fun f=>decide (size? P f.type=some 1) with
   |true=>.agg (h1D P (fs.toList.map (·.type)) cs)
   |false=>.agg cs
  |_=>.agg cs
 |v=>a1D P t v
def r1M (P:Program):List TypeId→List AV→List AV
 |t::ts,v::vs=>n1S P t v::r1M P ts vs
 |_,vs=>vs
def a2Q (P:Program) (ts:List TypeId) (o:Out):Out:=
 match o with
 | .panic v=>.panic v
 | .ret v=>match ts with
  |[t]=>.ret (n1S P t v)
  |ts=>match v with
   | .tuple vs=>.ret (.tuple (r1M P ts vs))
   |v=>.ret v
def f1v (P:Program) (b:Bool) (ts:List TypeId) (r:CRes):CRes:=
 match b with
 |true=>⟨a2Q P ts r.out,r.rm,r.H⟩
 |false=>r
abbrev Ext:=FuncId→Option (List AV→Heap→Option (Out×Heap))
def e1m (P:Program) (cfg:FuncId→FCfg) (ext:Ext):Nat→FuncId→List AV→RM→Heap→Option CRes
 |0=>fun _ _ _ _=>none
 |k+1=>fun f args rm H=>
  match ext f with
  |some e=>match rm with
   | .none=>match e args H with
    |some (out,H')=>some ⟨out,.none,H'⟩
    |none=>none
   |_=>none
  |none=>match P.funcs[f]? with
   |none=>none
   |some fn=>match fn.body with
    |none=>none
    |some c=>(o1B P cfg (e1m P cfg ext k) k f fn c args rm H).map fun r=>f1v P (cfg f).norm fn.resultTypes.toList (a2P rm H.length r)
end Go.Eng
end

section
/-
  THE ENGINE, part 2: how abstract values stand to the model's (RepL), which blocks are one's own (counted), what a step may turn (Eff).
-/
set_option linter.unusedVariables false
set_option linter.unusedSimpArgs false
namespace Go.Eng
abbrev Mem:=Nat→Nat→Option Value
def ReadAt (I:Mem) (b o:Nat) (ws:List Value):Prop:=∀(i:Nat) v,ws[i]? =some v→I b (o+i)=some v
def OneCells (vs:List Value):Prop:=∀v∈vs,v.oneCell'=true
inductive RepL (I:Mem) (μ:List Nat):List Value→List AV→Prop
 |nil:RepL I μ [] []
 |any {vs asq} (v:Value):RepL I μ vs asq→RepL I μ (v::vs) (.any::asq)
 |val {vs asq} (v:Value):RepL I μ vs asq→RepL I μ (v::vs) (.val v::asq)
 |slice0 {vs asq} (sz:Nat) (own:Own):RepL I μ vs asq→RepL I μ (.slice none 0 0::vs) (.slice sz [] own::asq)
 |slice {vs asq} (b o cap sz:Nat) (ws:List Value) (rows:List (List AV)) (own:Own):ReadAt I b o ws→RepL I μ ws rows.flatten→(∀r∈rows,r.length=sz)→
   rows.length≤cap→(own=.full→cap=rows.length)→RepL I μ vs asq→RepL I μ (.slice (some ⟨b,o,none⟩) rows.length cap::vs) (.slice sz rows own::asq)
 |slice1 {vs asq} (a:Addr) (cap sz:Nat) (own:Own):own=.no∨(own=.full∧cap=0)→RepL I μ vs asq→RepL I μ (.slice (some a) 0 cap::vs) (.slice sz [] own::asq)
 |ref {vs asq} (b o:Nat) (ws:List Value) (cs:List AV):ReadAt I b o ws→RepL I μ ws cs→RepL I μ vs asq→RepL I μ (.pointer (some ⟨b,o,none⟩)::vs) (.ref cs::asq)
 |ptr {vs asq} (id off b:Nat):μ[id]? =some b→RepL I μ vs asq→RepL I μ (.pointer (some ⟨b,off,none⟩)::vs) (.ptr id off::asq)
 |func {vs asq} (fn:Fn) (f c:Array Value) (af ac:List AV):RepL I μ f.toList af→RepL I μ c.toList ac→RepL I μ vs asq→RepL I μ (.func fn f c::vs) (.func fn af ac::asq)
 |iface {vs asq} (t:TypeId) (v:Value) (a:AV):RepL I μ [v] [a]→RepL I μ vs asq→RepL I μ (.iface t v::vs) (.iface t a::asq)
 |agg {vs asq} (cs:Array Value) (acs:List AV):OneCells cs.toList→RepL I μ cs.toList acs→RepL I μ vs asq→RepL I μ (.agg cs::vs) (.agg acs::asq)
 |tuple {vs asq} (ws:Array Value) (aws:List AV):RepL I μ ws.toList aws→RepL I μ vs asq→RepL I μ (.tuple ws::vs) (.tuple aws::asq)
abbrev Rep (I:Mem) (μ:List Nat) (v:Value) (a:AV):Prop:=RepL I μ [v] [a]
def LeM (I J:Mem):Prop:=∀b o v,I b o=some v→J b o=some v
def LeN (μ ν:List Nat):Prop:=∀(i:Nat) b,μ[i]? =some b→ν[i]? =some b
theorem LeM.refl (I:Mem):LeM I I:=fun _ _ _ h=>h
theorem LeN.refl (μ:List Nat):LeN μ μ:=fun _ _ h=>h
theorem LeM.trans {I J K:Mem} (h:LeM I J) (k:LeM J K):LeM I K:=fun b o v x=>k b o v (h b o v x)
theorem LeN.trans {I J K:List Nat} (h:LeN I J) (k:LeN J K):LeN I K:=fun b o x=>k b o (h b o x)
theorem LeN.append (μ ν:List Nat):LeN μ (μ++ν):=fun i b h=>by
 rw[List.getElem?_append_left (List.getElem?_eq_some_iff.1 h).1];exact h
theorem ReadAt.mono {I J:Mem} (h:LeM I J) {b o:Nat} {ws:List Value} (r:ReadAt I b o ws):ReadAt J b o ws:=fun i v hv=>h _ _ _ (r i v hv)
theorem RepL.mono {I J:Mem} {μ ν:List Nat} (hI:LeM I J) (hμ:LeN μ ν) {vs:List Value} {asq:List AV} (h:RepL I μ vs asq):RepL J ν vs asq:=by
 induction h with
 |nil=>exact .nil
 |any v _ ih=>exact .any v ih
 |val v _ ih=>exact .val v ih
 |slice0 sz own _ ih=>exact .slice0 sz own ih
 |slice b o cap sz ws rows own hr _ hl hc hf _ ih1 ih2=>exact .slice b o cap sz ws rows own (hr.mono hI) ih1 hl hc hf ih2
 |slice1 a cap sz own ho _ ih=>exact .slice1 a cap sz own ho ih
 |ref b o ws cs hr _ _ ih1 ih2=>exact .ref b o ws cs (hr.mono hI) ih1 ih2
 |ptr id off b hb _ ih=>exact .ptr id off b (hμ _ _ hb) ih
 |func fn f c af ac _ _ _ ih1 ih2 ih3=>exact .func fn f c af ac ih1 ih2 ih3
 |iface t v a _ _ ih1 ih2=>exact .iface t v a ih1 ih2
 |agg cs acs ho _ _ ih1 ih2=>exact .agg cs acs ho ih1 ih2
 |tuple ws aws _ _ ih1 ih2=>exact .tuple ws aws ih1 ih2
theorem RepL.length {I:Mem} {μ:List Nat} {vs:List Value} {asq:List AV} (h:RepL I μ vs asq):vs.length=asq.length:=by
 induction h<;>simp_all
theorem RepL.cons {I:Mem} {μ:List Nat} {v:Value} {a:AV} {vs:List Value} {asq:List AV} (h:Rep I μ v a) (k:RepL I μ vs asq):RepL I μ (v::vs) (a::asq):=by
 cases h with
 |any v _=>exact .any v k
 |val v _=>exact .val v k
 |slice0 sz own _=>exact .slice0 sz own k
 |slice b o cap sz ws rows own hr h2 hl hc hf _=>exact .slice b o cap sz ws rows own hr h2 hl hc hf k
 |slice1 a cap sz own ho _=>exact .slice1 a cap sz own ho k
 |ref b o ws cs hr h2 _=>exact .ref b o ws cs hr h2 k
 |ptr id off b hb _=>exact .ptr id off b hb k
 |func fn f c af ac h1 h2 _=>exact .func fn f c af ac h1 h2 k
 |iface t v a h1 _=>exact .iface t v a h1 k
 |agg cs acs ho h1 _=>exact .agg cs acs ho h1 k
 |tuple ws aws h1 _=>exact .tuple ws aws h1 k
theorem RepL.uncons {I:Mem} {μ:List Nat} {v:Value} {a:AV} {vs:List Value} {asq:List AV} (h:RepL I μ (v::vs) (a::asq)):Rep I μ v a∧RepL I μ vs asq:=by
 cases h with
 |any v k=>exact⟨.any v .nil,k⟩
 |val v k=>exact⟨.val v .nil,k⟩
 |slice0 sz own k=>exact⟨.slice0 sz own .nil,k⟩
 |slice b o cap sz ws rows own hr h2 hl hc hf k=>exact⟨.slice b o cap sz ws rows own hr h2 hl hc hf .nil,k⟩
 |slice1 a cap sz own ho k=>exact⟨.slice1 a cap sz own ho .nil,k⟩
 |ref b o ws cs hr h2 k=>exact⟨.ref b o ws cs hr h2 .nil,k⟩
 |ptr id off b hb k=>exact⟨.ptr id off b hb .nil,k⟩
 |func fn f c af ac h1 h2 k=>exact⟨.func fn f c af ac h1 h2 .nil,k⟩
 |iface t v a h1 k=>exact⟨.iface t v a h1 .nil,k⟩
 |agg cs acs ho h1 k=>exact⟨.agg cs acs ho h1 .nil,k⟩
 |tuple ws aws h1 k=>exact⟨.tuple ws aws h1 .nil,k⟩
section
variable {I:Mem} {μ:List Nat}
theorem RepL.append {vs ws:List Value} {asq bs:List AV} (h:RepL I μ vs asq) (k:RepL I μ ws bs):RepL I μ (vs++ws) (asq++bs):=by
 induction vs generalizing asq with
 |nil=>cases h;exact k
 |cons v vs ih=>
  cases asq with
  |nil=>cases h
  |cons a asq=>obtain⟨h1,h2⟩:=h.uncons;exact .cons h1 (ih h2)
theorem RepL.get {vs:List Value} {asq:List AV} (h:RepL I μ vs asq) {i:Nat} {v:Value} {a:AV} (hv:vs[i]? =some v) (ha:asq[i]? =some a):Rep I μ v a:=by
 induction vs generalizing asq i with
 |nil=>simp at hv
 |cons w vs ih=>
  cases asq with
  |nil=>cases h
  |cons b asq=>
   obtain⟨h1,h2⟩:=h.uncons
   cases i with
   |zero=>simp at hv ha;subst hv ha;exact h1
   |succ i=>exact ih h2 (by simpa using hv) (by simpa using ha)
theorem RepL.get' {vs:List Value} {asq:List AV} (h:RepL I μ vs asq) {i:Nat} {a:AV} (ha:asq[i]? =some a):∃v,vs[i]? =some v∧Rep I μ v a:=by
 have hi:=(List.getElem?_eq_some_iff.1 ha).1
 rw[←h.length] at hi
 exact⟨vs[i],List.getElem?_eq_getElem hi,h.get (List.getElem?_eq_getElem hi) ha⟩
theorem RepL.of_get {vs:List Value} {asq:List AV} (hl:vs.length=asq.length) (h:∀(i:Nat) v a,vs[i]? =some v→asq[i]? =some a→Rep I μ v a):RepL I μ vs asq:=by
 induction vs generalizing asq with
 |nil=>cases asq with
  |nil=>exact .nil
  |cons a asq=>simp at hl
 |cons v vs ih=>
  cases asq with
  |nil=>simp at hl
  |cons a asq=>exact .cons (h 0 v a rfl rfl) (ih (by simpa using hl) fun i w b hw hb=>h (i+1) w b (by simpa using hw) (by simpa using hb))
theorem RepL.take {vs:List Value} {asq:List AV} (h:RepL I μ vs asq) (n:Nat):RepL I μ (vs.take n) (asq.take n):=by
 refine .of_get (by simp [h.length]) fun i v a hv ha=>?_
 rw[List.getElem?_take] at hv ha
 split at hv
 ·rename_i hi;rw[if_pos hi] at ha;exact h.get hv ha
 ·simp at hv
theorem RepL.drop {vs:List Value} {asq:List AV} (h:RepL I μ vs asq) (n:Nat):RepL I μ (vs.drop n) (asq.drop n):=by
 refine .of_get (by simp [h.length]) fun i v a hv ha=>?_
 rw[List.getElem?_drop] at hv ha
 exact h.get hv ha
theorem RepL.set {vs:List Value} {asq:List AV} (h:RepL I μ vs asq) (i:Nat) {v:Value} {a:AV} (k:Rep I μ v a):RepL I μ (vs.set i v) (asq.set i a):=by
 refine .of_get (by simp [h.length]) fun j w b hw hb=>?_
 rw[List.getElem?_set] at hw hb
 by_cases hij:i=j
 ·rw[if_pos hij] at hw hb
  split at hw
  ·rename_i hl;rw[if_pos (by rw[←h.length];exact hl)] at hb;cases hw;cases hb;exact k
  ·simp at hw
 ·rw[if_neg hij] at hw hb;exact h.get hw hb
theorem Rep.dis {v:Value} {a:AV} (h:Rep I μ v a):Rep I μ v a.dis:=by
 unfold AV.dis
 split
 ·rename_i sz rows
  cases h with
  |slice0 sz own _=>exact .slice0 sz _ .nil
  |slice b o cap sz ws rows own hr h2 hl hc hf _=>exact .slice b o cap sz ws rows .no hr h2 hl hc (fun h=>by cases h) .nil
  |slice1 a cap sz own ho _=>rcases ho with h|⟨h,_⟩<;>cases h
 ·exact h
theorem RepL.dis {vs:List Value} {asq:List AV} (h:RepL I μ vs asq):RepL I μ vs (asq.map AV.dis):=by
 refine .of_get (by simp [h.length]) fun i v a hv ha=>?_
 rw[List.getElem?_map] at ha
 cases hb:asq[i]? with
 |none=>simp [hb] at ha
 |some b=>simp [hb] at ha;subst ha;exact(h.get hv hb).dis
theorem RepL.vals (vs:List Value):RepL I μ vs (vs.map .val):=by
 induction vs with
 |nil=>exact .nil
 |cons v vs ih=>exact .val v ih
theorem Rep.ofCell (v:Value):Rep I μ v (ofCell v):=by
 unfold Eng.ofCell
 split
 ·exact .slice0 0 .full .nil
 ·exact .func _ _ _ _ _ (.vals _) (.vals _) .nil
 ·exact .val _ .nil
theorem RepL.ofCells (vs:List Value):RepL I μ vs (vs.map Eng.ofCell):=by
 induction vs with
 |nil=>exact .nil
 |cons v vs ih=>exact .cons (.ofCell v) ih
theorem Rep.ofVal (v:Value):Rep I μ v (ofVal v):=by
 unfold Eng.ofVal
 split
 ·rename_i cs
  split
  ·rename_i h;exact .agg cs _ (fun v hv=>List.all_eq_true.1 h v hv) (.ofCells _) .nil
  ·exact .val _ .nil
 ·exact .ofCell v
theorem t1O {vs ws:List Value} {asq:List AV} (h:RepL I μ vs asq) (hc:h1B asq=some ws):vs=ws:=by
 induction vs generalizing asq ws with
 |nil=>cases h;simp [h1B] at hc;exact hc.symm
 |cons v vs ih=>
  cases asq with
  |nil=>cases h
  |cons a asq=>
   obtain⟨h1,h2⟩:=h.uncons
   cases a<;>simp [h1B] at hc
   obtain⟨l,hl,rfl⟩:=hc
   cases h1
   rw[ih h2 hl]
theorem b2e {v w:Value} {a:AV} (h:Rep I μ v a) (ha:a.toVal=some w):v=w:=by
 cases h with
 |val v _=>simpa [AV.toVal] using ha
 |agg cs acs ho h1 _=>
  simp only[AV.toVal,Option.map_eq_some_iff] at ha
  obtain⟨l,hl,rfl⟩:=ha
  have:=t1O h1 hl
  rw[←this]
 |iface t v a h1 _=>
  cases h1<;>simp [AV.toVal] at ha
  exact ha
 |_=>simp [AV.toVal] at ha
theorem slice_inv {v:Value} {sz:Nat} {rows:List (List AV)} {own:Own} (h:Rep I μ v (.slice sz rows own)):(rows=[]∧v=.slice none 0 0)∨
  (∃b o cap ws,v=.slice (some ⟨b,o,none⟩) rows.length cap∧ReadAt I b o ws∧RepL I μ ws rows.flatten∧(∀r∈rows,r.length=sz)∧rows.length≤cap∧(own=.full→cap=rows.length))∨
  (rows=[]∧∃a cap,v=.slice (some a) 0 cap∧(own=.no∨(own=.full∧cap=0))):=by
 cases h with
 |slice0=>exact .inl ⟨rfl,rfl⟩
 |slice b o cap sz ws rows own hr h2 hl hc hf _=>exact .inr (.inl ⟨b,o,cap,ws,rfl,hr,h2,hl,hc,hf⟩)
 |slice1 a cap sz own ho _=>exact .inr (.inr ⟨rfl,a,cap,rfl,ho⟩)
theorem l1J {v:Value} {a:AV} {cs:List AV} (h:Rep I μ v a) (ha:a.cells=some cs):RepL I μ v.cells.toList cs∧OneCells v.cells.toList:=by
 cases h with
 |any=>simp [AV.cells] at ha
 |val v _=>
  cases v<;>simp [AV.cells] at ha<;>subst ha<;>exact⟨.val _ .nil,fun w hw=>by simp [Value.cells] at hw;subst hw;rfl⟩
 |slice0 sz own _=>simp [AV.cells] at ha;subst ha;exact⟨.slice0 _ _ .nil,fun w hw=>by simp [Value.cells] at hw;subst hw;rfl⟩
 |slice b o cap sz ws rows own hr h2 hl hc hf _=>simp [AV.cells] at ha;subst ha;exact⟨.slice _ _ _ _ ws _ _ hr h2 hl hc hf .nil,fun w hw=>by simp [Value.cells] at hw;subst hw;rfl⟩
 |slice1 a cap sz own ho _=>simp [AV.cells] at ha;subst ha;exact⟨.slice1 _ _ _ _ ho .nil,fun w hw=>by simp [Value.cells] at hw;subst hw;rfl⟩
 |ref b o ws cs hr h2 _=>simp [AV.cells] at ha;subst ha;exact⟨.ref _ _ ws _ hr h2 .nil,fun w hw=>by simp [Value.cells] at hw;subst hw;rfl⟩
 |ptr id off b hb _=>simp [AV.cells] at ha;subst ha;exact⟨.ptr _ _ _ hb .nil,fun w hw=>by simp [Value.cells] at hw;subst hw;rfl⟩
 |func fn f c af ac h1 h2 _=>simp [AV.cells] at ha;subst ha;exact⟨.func _ _ _ _ _ h1 h2 .nil,fun w hw=>by simp [Value.cells] at hw;subst hw;rfl⟩
 |iface t v a h1 _=>simp [AV.cells] at ha;subst ha;exact⟨.iface _ _ _ h1 .nil,fun w hw=>by simp [Value.cells] at hw;subst hw;rfl⟩
 |agg cs acs ho h1 _=>simp [AV.cells] at ha;subst ha;exact⟨h1,ho⟩
 |tuple=>simp [AV.cells] at ha
end
def zsum {α β:Type} (f:α→β→Nat):List α→List β→Nat
 |a::l,b::m=>f a b+zsum f l m
 |_,_=>0
theorem e1U {α β:Type} (f:α→β→Nat) {l:List α} {m:List β} (hl:l.length=m.length) {i:Nat} {a a':α} {b b':β} (ha:l[i]? =some a) (hb:m[i]? =some b):
  zsum f (l.set i a') (m.set i b')+f a b=zsum f l m+f a' b':=by
 induction l generalizing m i with
 |nil=>simp at ha
 |cons x l ih=>
  cases m with
  |nil=>simp at hl
  |cons y m=>
   cases i with
   |zero=>simp at ha hb;subst ha hb;simp [zsum];omega
   |succ i=>
    have:=ih (m:=m) (by simpa using hl) (i:=i) (by simpa using ha) (by simpa using hb)
    simp only[List.set_cons_succ,zsum];omega
theorem c1T {α β:Type} (f:α→β→Nat) {l l':List α} {m m':List β} (hl:l.length=m.length):zsum f (l++l') (m++m')=zsum f l m+zsum f l' m':=by
 induction l generalizing m with
 |nil=>cases m with
  |nil=>simp [zsum]
  |cons=>simp at hl
 |cons x l ih=>
  cases m with
  |nil=>simp at hl
  |cons y m=>simp only[List.cons_append,zsum];rw[ih (by simpa using hl)];omega
theorem g1H {α β:Type} (f:α→β→Nat) {l:List α} {m:List β} {i:Nat} {a:α} {b:β} (ha:l[i]? =some a) (hb:m[i]? =some b):f a b≤zsum f l m:=by
 induction l generalizing m i with
 |nil=>simp at ha
 |cons x l ih=>
  cases m with
  |nil=>simp at hb
  |cons y m=>
   cases i with
   |zero=>simp at ha hb;subst ha hb;simp [zsum]
   |succ i=>have:=ih (m:=m) (i:=i) (by simpa using ha) (by simpa using hb);simp only[zsum];omega
theorem r1T {α β:Type} (f:α→β→Nat) {l:List α} {m:List β} (h:0<zsum f l m):∃(i:Nat) (a:α) (b:β),l[i]? =some a∧m[i]? =some b∧0<f a b:=by
 induction l generalizing m with
 |nil=>simp [zsum] at h
 |cons x l ih=>
  cases m with
  |nil=>simp [zsum] at h
  |cons y m=>
   by_cases hx:0<f x y
   ·exact⟨0,x,y,rfl,rfl,hx⟩
   ·obtain⟨i,a,b,ha,hb,hf⟩:=ih (m:=m) (by simp only[zsum] at h;omega)
    exact⟨i+1,a,b,by simpa using ha,by simpa using hb,hf⟩
def tc (b:Nat):Value→AV→Nat
 | .slice (some a) _ _,.slice _ _ .yes=>if a.block=b then 1 else 0
 |_,_=>0
theorem r1e (b:Nat) (v:Value) (a:AV):tc b v a.dis=0:=by
 cases a with
 |slice sz rows own=>cases own<;>cases v<;>simp [AV.dis,tc]<;>(rename_i x _ _;cases x<;>simp)
 |_=>cases v<;>simp [AV.dis,tc]
theorem tc_le (b:Nat) (v:Value) (a:AV):tc b v a≤1:=by
 unfold tc;split<;>(try split)<;>omega
abbrev tcs (b:Nat) (vs:List Value) (asq:List AV):Nat:=zsum (tc b) vs asq
abbrev tcss (b:Nat) (vs:List (List Value)) (asq:List (List AV)):Nat:=zsum (tcs b) vs asq
abbrev LV:=Option (Nat×List Value)
def lc (b:Nat):LV→Option LCell→Nat
 |some (b',ws),some (_,cs)=>(if b'=b then 1 else 0)+tcs b ws cs
 |_,_=>0
theorem g2V (b:Nat) (vs:List Value) (asq:List AV):tcs b vs (asq.map AV.dis)=0:=by
 induction vs generalizing asq with
 |nil=>simp [zsum]
 |cons v vs ih=>cases asq with
  |nil=>simp [zsum]
  |cons a asq=>simp only[List.map_cons,zsum,r1e,ih]
def SpareOk (I:Mem) (w:World) (v:Value) (a:AV):Prop:=
 ∀b o len cap sz rows,v=.slice (some ⟨b,o,none⟩) len cap→a=.slice sz rows .yes→
  (∃c e,w.heap[b]? =some (.cells c e (0,0))∧o+cap*sz≤c.size)∧∀k,o+len*sz≤k→I b k=none
theorem SpareOk.dis (I:Mem) (w:World) (v:Value) (a:AV):SpareOk I w v a.dis:=by
 intro b o len cap sz rows hv ha
 unfold AV.dis at ha
 split at ha
 ·cases ha
 ·rename_i h;exact absurd ha (h _ _)
def AllSpare (I:Mem) (w:World) (vs:List Value) (asq:List AV):Prop:=∀(i:Nat) v a,vs[i]? =some v→asq[i]? =some a→SpareOk I w v a
structure Eff (I:Mem) (w:World) (A:Nat→Prop) (J:Mem) (w':World):Prop where
 le:LeM I J
 fresh:∀b o v,J b o=some v→I b o=some v∨w.heap.size≤b∨A b
 keep:∀b,b<w.heap.size→¬A b→w'.heap[b]? =w.heap[b]?
 size:w.heap.size≤w'.heap.size
 os:w'.os=w.os
 tape:w'.tape=w.tape
 output:w'.output=w.output
theorem Eff.refl (I:Mem) (w:World) (A:Nat→Prop):Eff I w A I w:=⟨.refl I,fun _ _ _ h=>.inl h,fun _ _ _=>rfl,Nat.le_refl _,rfl,rfl,rfl⟩
theorem Eff.mono {I J:Mem} {w w':World} {A B:Nat→Prop} (h:Eff I w A J w') (hAB:∀b,A b→B b):Eff I w B J w':=
 ⟨h.le,fun b o v hv=>(h.fresh b o v hv).imp id (Or.imp id (hAB b)),fun b hb hn=>h.keep b hb fun ha=>hn (hAB b ha),h.size,h.os,h.tape,h.output⟩
theorem Eff.trans {I J K:Mem} {w w' w'':World} {A B:Nat→Prop} (h:Eff I w A J w') (k:Eff J w' B K w'') (hB:∀b,B b→A b∨w.heap.size≤b):Eff I w A K w'':=
 ⟨h.le.trans k.le,fun b o v hv=>by
   rcases k.fresh b o v hv with h1|h1|h1
   ·exact h.fresh b o v h1
   ·exact .inr (.inl (Nat.le_trans h.size h1))
   ·rcases hB b h1 with h2|h2
    ·exact .inr (.inr h2)
    ·exact .inr (.inl h2),
  fun b hb hn=>by
   rw[k.keep b (Nat.lt_of_lt_of_le hb h.size) fun hBb=>by rcases hB b hBb with h2|h2;exact hn h2;omega]
   exact h.keep b hb hn,
  Nat.le_trans h.size k.size,k.os.trans h.os,k.tape.trans h.tape,k.output.trans h.output⟩
theorem Eff.spare {I J:Mem} {w w':World} {A:Nat→Prop} (h:Eff I w A J w') {v:Value} {a:AV} (hs:SpareOk I w v a) (hn:∀b,A b→tc b v a=0):SpareOk J w' v a:=by
 intro b o len cap sz rows hv ha
 obtain⟨⟨c,e,hc,hl⟩,hI⟩:=hs b o len cap sz rows hv ha
 have hb:b<w.heap.size:=(Array.getElem?_eq_some_iff.1 hc).1
 have hA:¬A b:=fun hA=>by have:=hn b hA;subst hv ha;simp [tc] at this
 refine⟨⟨c,e,by rw[h.keep b hb hA];exact hc,hl⟩,fun k hk=>?_⟩
 cases hJ:J b k with
 |none=>rfl
 |some v=>
  rcases h.fresh b k v hJ with h1|h1|h1
  ·rw[hI k hk] at h1;cases h1
  ·omega
  ·exact absurd h1 hA
theorem Eff.none {I J:Mem} {w w':World} {A:Nat→Prop} (h:Eff I w A J w') {b:Nat} (hb:b<w.heap.size) (hA:¬A b) (hI:∀o,I b o=Option.none):∀o,J b o=Option.none:=fun o=>by
 cases hJ:J b o with
 |none=>rfl
 |some v=>
  rcases h.fresh b o v hJ with h1|h1|h1
  ·rw[hI o] at h1;cases h1
  ·omega
  ·exact absurd h1 hA
def ImmOk (I:Mem) (w:World):Prop:=∀b o v,I b o=some v→w.cell? ⟨b,o,none⟩=some v∧v.oneCell'=true
theorem ImmOk.lt {I:Mem} {w:World} (h:ImmOk I w) {b o:Nat} {v:Value} (hv:I b o=some v):b<w.heap.size:=World.block_lt_of_cell? w _ (h b o v hv).1
theorem ReadAt.one {I:Mem} {w:World} (h:ImmOk I w) {b o:Nat} {ws:List Value} (r:ReadAt I b o ws):OneCells ws:=fun v hv=>by
 obtain⟨i,hi,rfl⟩:=List.mem_iff_getElem.1 hv
 exact(h _ _ _ (r i _ (List.getElem?_eq_getElem hi))).2
end Go.Eng
end

section
/-
  THE ENGINE, part 3: operations that leave the world asq it is come to what the interpreter says.
-/
set_option linter.unusedVariables false
set_option linter.unusedSimpArgs false
namespace Go.Eng
def TRep (I:Mem) (μ:List Nat) (lh:List (Option LCell)) (lv:List LV) (v:Value):AV→Prop
 | .lp t g off=>∃g' cs b ws,lh[t]? =some (some (g',cs))∧lv[t]? =some (some (b,ws))∧g≤g'∧∃b',v=.pointer (some ⟨b',off,none⟩)∧(g=g'→b'=b)
 | .any=>Rep I μ v .any
 | .val u=>Rep I μ v (.val u)
 | .slice sz rows own=>Rep I μ v (.slice sz rows own)
 | .ref cs=>Rep I μ v (.ref cs)
 | .ptr id off=>Rep I μ v (.ptr id off)
 | .func fn f c=>Rep I μ v (.func fn f c)
 | .iface t a=>Rep I μ v (.iface t a)
 | .agg cs=>Rep I μ v (.agg cs)
 | .tuple vs=>Rep I μ v (.tuple vs)
section
variable {I:Mem} {μ:List Nat} {lh:List (Option LCell)} {lv:List LV}
theorem TRep.of {v:Value} {a:AV} (h:Rep I μ v a):TRep I μ lh lv v a:=by
 cases a<;>first|exact h|cases h
theorem TRep.rep {v:Value} {a:AV} (h:TRep I μ lh lv v a) (ha:a.isLp=false):Rep I μ v a:=by
 cases a<;>first|exact h|simp [AV.isLp] at ha
theorem TRep.mono {J:Mem} {ν:List Nat} (hI:LeM I J) (hμ:LeN μ ν) {v:Value} {a:AV} (h:TRep I μ lh lv v a):TRep J ν lh lv v a:=by
 cases a<;>first|exact h|exact RepL.mono hI hμ h
theorem TRep.dis {v:Value} {a:AV} (h:TRep I μ lh lv v a):TRep I μ lh lv v a.dis:=by
 cases a with
 |slice sz rows own=>cases own<;>first|exact h|exact Rep.dis (a:=.slice sz rows .yes) h
 |_=>exact h
def NoOwn (a:AV):Prop:=∀sz rows,a≠ .slice sz rows .yes
theorem NoOwn.dis (a:AV):NoOwn a.dis:=by
 cases a with
 |slice sz rows own=>cases own<;>(intro s r h;simp [AV.dis] at h)
 |_=>intro s r h;simp [AV.dis] at h
theorem NoOwn.tc {a:AV} (h:NoOwn a) (b:Nat) (v:Value):tc b v a=0:=by
 cases a with
 |slice sz rows own=>cases own<;>first|exact absurd rfl (h sz rows)|(cases v<;>simp [Eng.tc]<;>(rename_i x _ _;cases x<;>simp))
 |_=>cases v<;>simp [Eng.tc]
theorem NoOwn.spare {a:AV} (h:NoOwn a) (w:World) (v:Value):SpareOk I w v a:=fun b o len cap sz rows _ ha=>absurd ha (h sz rows)
theorem n1v (v:Value):NoOwn (ofCell v):=by
 unfold ofCell;split<;>(intro s r h;simp at h)
theorem e1q (v:Value):NoOwn (ofVal v):=by
 unfold ofVal;split
 ·split<;>(intro s r h;simp at h)
 ·exact n1v v
end
theorem i1w (P:Program) {α:Type} {s:Sem α} {a:α} (h:g1A P s=some a) (w:World):s.run P w=.ok a w:=by
 induction s with
 |pure x=>simp [g1A] at h;subst h;rfl
 |program k ih=>simp only[g1A] at h;exact ih P h
 |mark m k ih=>simp only[g1A] at h;exact ih h
 |_=>simp [g1A] at h
section
variable {P:Program} {I:Mem} {μ:List Nat} {lh:List (Option LCell)} {lv:List LV} {w:World}
theorem e1B {t:TypeId} {n:Nat} (h:size? P t=some n) (w:World):(sizeOf t).run P w=.ok n w:=by
 unfold size? at h
 cases hi:P.info? t with
 |none=>simp [hi] at h
 |some i=>simp [hi] at h;subst h;simp [sizeOf,typeInfo,hi]
theorem i1x {t:TypeId} {b:Bool} (h:isAgg? P t=some b) (w:World):(isAgg t).run P w=.ok b w:=by
 unfold isAgg? at h
 cases hd:P.underlying t with
 |none=>simp [hd] at h
 |some d=>simp [hd] at h;subst h;cases d<;>simp [isAgg,run_underlying hd]
theorem g1K (b o n:Nat):(⟨b,o,none⟩:Addr).add n=⟨b,o+n,none⟩:=by
 unfold Addr.add;split
 ·rename_i h;subst h;rfl
 ·rfl
def CellsAt (w:World) (b o:Nat) (ws:List Value):Prop:=∀(i:Nat) v,ws[i]? =some v→w.cell? ⟨b,o+i,none⟩=some v
theorem ReadAt.cells {b o:Nat} {ws:List Value} (h:ReadAt I b o ws) (hI:ImmOk I w):CellsAt w b o ws:=fun i v hv=>(hI _ _ _ (h i v hv)).1
theorem CellsAt.block {b:Nat} {ws:List Value} {e:TypeId} {fz:Nat×Nat} (h:w.heap[b]? =some (.cells ws.toArray e fz)):CellsAt w b 0 ws:=fun i v hv=>by
 simp [World.cell?,h,hv]
theorem CellsAt.drop {b o:Nat} {ws:List Value} (h:CellsAt w b o ws) (n:Nat):CellsAt w b (o+n) (ws.drop n):=fun i v hv=>by
 rw[List.getElem?_drop] at hv
 have:=h (n+i) v hv
 rwa [←Nat.add_assoc] at this
theorem CellsAt.take {b o:Nat} {ws:List Value} (h:CellsAt w b o ws) (n:Nat):CellsAt w b o (ws.take n):=fun i v hv=>by
 rw[List.getElem?_take] at hv
 split at hv
 ·exact h i v hv
 ·cases hv
theorem ReadAt.drop {b o:Nat} {ws:List Value} (h:ReadAt I b o ws) (n:Nat):ReadAt I b (o+n) (ws.drop n):=fun i v hv=>by
 rw[List.getElem?_drop] at hv
 have:=h (n+i) v hv
 rwa [←Nat.add_assoc] at this
theorem ReadAt.take {b o:Nat} {ws:List Value} (h:ReadAt I b o ws) (n:Nat):ReadAt I b o (ws.take n):=fun i v hv=>by
 rw[List.getElem?_take] at hv
 split at hv
 ·exact h i v hv
 ·cases hv
theorem OneCells.drop {ws:List Value} (h:OneCells ws) (n:Nat):OneCells (ws.drop n):=fun v hv=>h v (List.mem_of_mem_drop hv)
theorem OneCells.take {ws:List Value} (h:OneCells ws) (n:Nat):OneCells (ws.take n):=fun v hv=>h v (List.mem_of_mem_take hv)
theorem j1B {b o:Nat} {ws:List Value} (h:CellsAt w b o ws):(loadCells ⟨b,o,none⟩ ws.length).run P w=.ok ws.toArray w:=
 run_loadCells_list w _ ws fun j v hv=>by rw[g1K];exact h j v hv
theorem f1x {b o:Nat} {ws:List Value} {cs:List AV} {t:TypeId} {off:Nat} {a:AV} (hc:CellsAt w b o ws) (h1:OneCells ws) (hr:RepL I μ ws cs)
  (h:c1M P t cs off=some a):∃v,(loadVar t ⟨b,o+off,none⟩).run P w=.ok v w∧Rep I μ v a∧NoOwn a:=by
 unfold c1M at h
 split at h
 ·rename_i hagg
  split at h
  ·rename_i n hn
   split at h
   ·rename_i hle
    simp only[Option.some.injEq] at h;subst h
    have hlen:((ws.drop off).take n).length=n:=by simp [hr.length];omega
    have hrun:=j1B (P:=P) ((hc.drop off).take n)
    rw[hlen] at hrun
    refine⟨.agg ((ws.drop off).take n).toArray,?_,.agg _ _ (by simpa using (h1.drop off).take n) (by simpa using ((hr.drop off).take n).dis) .nil,fun s r h=>by cases h⟩
    simp [loadVar,i1x hagg,e1B hn,hrun]
   ·cases h
  ·cases h
 ·rename_i hagg
  cases hcs:cs[off]? with
  |none=>simp [hcs] at h
  |some c=>
   simp [hcs] at h;subst h
   obtain⟨v,hv,hrep⟩:=hr.get' hcs
   exact⟨v,by simp [loadVar,i1x hagg,hc off v hv],hrep.dis,.dis c⟩
 ·cases h
theorem r1o {cs:Array Value} {acs:List AV} {t:TypeId} {off:Nat} {a:AV} (h1:OneCells cs.toList) (hr:RepL I μ cs.toList acs)
  (h:y1f P t acs off=some a):∃v,(part t cs off).run P w=.ok v w∧Rep I μ v a∧NoOwn a:=by
 unfold y1f c1M at h
 split at h
 ·rename_i hagg
  split at h
  ·rename_i n hn
   split at h
   ·rename_i hle
    simp only[Option.some.injEq] at h;subst h
    refine⟨.agg (cs.extract off (off+n)),?_,.agg _ _ ?_ ?_ .nil,fun s r h=>by cases h⟩
    ·simp [part,i1x hagg,e1B hn]
    ·have:(cs.extract off (off+n)).toList=(cs.toList.drop off).take n:=by simp [Array.toList_extract,List.extract]
     rw[this];exact(h1.drop off).take n
    ·have:(cs.extract off (off+n)).toList=(cs.toList.drop off).take n:=by simp [Array.toList_extract,List.extract]
     rw[this];exact((hr.drop off).take n).dis
   ·cases h
  ·cases h
 ·rename_i hagg
  cases hcs:acs[off]? with
  |none=>simp [hcs] at h
  |some c=>
   simp [hcs] at h;subst h
   obtain⟨v,hv,hrep⟩:=hr.get' hcs
   have hv':cs[off]? =some v:=by simpa using hv
   exact⟨v,by simp [part,i1x hagg,hv'],hrep.dis,.dis c⟩
 ·cases h
theorem u1n {v:Value} {a r:AV} {t:TypeId} {i:Nat} (hv:Rep I μ v a) (h:o1A P t a i=some r):∃v',(Instr.field t v i).run P w=.ok v' w∧Rep I μ v' r∧NoOwn r:=by
 unfold o1A at h
 split at h
 ·rename_i fs cs hd
  split at h
  ·rename_i f hf
   cases hv with
   |agg vs acs ho h1 _=>
    obtain⟨v',hrun,h2,h3⟩:=r1o (P:=P) (w:=w) ho h1 h
    exact⟨v',by simp [Instr.field,run_underlying hd,hf,asAgg,hrun],h2,h3⟩
  ·cases h
 ·cases h
theorem u1o {v vi:Value} {a ai r:AV} {t:TypeId} (hv:Rep I μ v a) (hi:Rep I μ vi ai) (h:l1x P t a ai=some r):∃v',(Instr.index t v vi).run P w=.ok v' w∧Rep I μ v' r∧NoOwn r:=by
 unfold l1x at h
 split at h
 ·rename_i len e cs k i hd
  split at h
  ·rename_i hb
   split at h
   ·rename_i n hn
    cases hi
    cases hv with
    |agg vs acs ho h1 _=>
     obtain⟨v',hrun,h2,h3⟩:=r1o (P:=P) (w:=w) ho h1 h
     exact⟨v',by simp [Instr.index,asIntOf,run_underlying hd,hb,e1B hn,hrun],h2,h3⟩
   ·cases h
  ·cases h
 ·rename_i s k i hd
  split at h
  ·rename_i hb
   cases hi;cases hv
   cases hs:s[i.toNat]? with
   |none=>simp [hs] at h
   |some x=>
    simp [hs] at h;subst h
    exact⟨.int .u8 x.toNat,by simp [Instr.index,asIntOf,run_underlying hd,hb,hs],.val _ .nil,fun s r h=>by cases h⟩
  ·cases h
 ·cases h
theorem q1B {b o:Nat} {f:Field} {n:Nat} (hn:size? P f.type=some (n+1)):(fieldPlace ⟨b,o,none⟩ f).run P w=.ok ⟨b,o+f.offset,none⟩ w:=by
 simp [fieldPlace,e1B hn,g1K]
theorem n1T {v:Value} {a r:AV} {t:TypeId} {i:Nat} (hv:TRep I μ lh lv v a) (h:g1R P t a i=some r):
  ∃v',(Instr.fieldAt t v i).run P w=.ok v' w∧TRep I μ lh lv v' r∧NoOwn r:=by
 unfold g1R at h
 split at h
 ·rename_i fs hd
  split at h
  ·rename_i f hf
   split at h
   ·rename_i n hn
    have key:∀b o,(Instr.fieldAt t (.pointer (some ⟨b,o,none⟩)) i).run P w=.ok (.pointer (some ⟨b,o+f.offset,none⟩)) w:=fun b o=>by
     simp [Instr.fieldAt,run_underlying hd,hf,Instr.sureAddr,q1B hn]
    split at h
    ·rename_i cs
     split at h
     ·simp only[Option.some.injEq] at h;subst h
      cases hv with
      |ref b o ws cs hr h2 _=>exact⟨_,key b o,.of (.ref _ _ _ _ (hr.drop _) (h2.drop _) .nil),fun s r h=>by cases h⟩
     ·cases h
    ·rename_i id o
     simp only[Option.some.injEq] at h;subst h
     cases hv with
     |ptr id off b hb _=>exact⟨_,key b o,.of (.ptr _ _ _ hb .nil),fun s r h=>by cases h⟩
    ·rename_i t' g o
     simp only[Option.some.injEq] at h;subst h
     obtain⟨g',cs,b,ws,e1,e2,e3,b',rfl,e5⟩:=hv
     exact⟨_,key b' o,⟨g',cs,b,ws,e1,e2,e3,b',rfl,e5⟩,fun s r h=>by cases h⟩
    ·cases h
   ·cases h
  ·cases h
 ·cases h
theorem v1U {rows:List (List AV)} {sz:Nat} (hl:∀r∈rows,r.length=sz) {i:Nat} {r:List AV} (h:rows[i]? =some r):(rows.flatten.drop (i*sz)).take sz=r:=by
 induction rows generalizing i with
 |nil=>simp at h
 |cons x rows ih=>
  have hx:x.length=sz:=hl x (by simp)
  cases i with
  |zero=>simp at h;subst h;simp [←hx]
  |succ i=>
   have:=ih (fun r hr=>hl r (by simp [hr])) (i:=i) (by simpa using h)
   rw[List.flatten_cons,Nat.succ_mul,Nat.add_comm,←List.drop_drop,List.drop_append_of_le_length (by omega),List.drop_of_length_le (l:=x) (by omega),List.nil_append]
   exact this
theorem n1U {v vi:Value} {a ai r:AV} {t:TypeId} (hv:TRep I μ lh lv v a) (hi:TRep I μ lh lv vi ai) (h:f1Q P t a ai=some r):
  ∃v',(Instr.indexAt t v vi).run P w=.ok v' w∧TRep I μ lh lv v' r∧NoOwn r:=by
 unfold f1Q at h
 split at h
 ·rename_i e k i hd
  split at h
  ·rename_i sz rows own
   split at h
   ·rename_i h0
    split at h
    ·rename_i row hrow
     split at h
     ·rename_i hsz
      simp only[Option.some.injEq] at h;subst h
      have hlt:=(List.getElem?_eq_some_iff.1 hrow).1
      cases hi
      cases hv with
      |slice0=>simp at hlt
      |slice1=>simp at hlt
      |slice b o cap sz ws rows own hr h2 hl hc hf _=>
       refine⟨.pointer (some ⟨b,o+i.toNat*sz,none⟩),?_,.of (.ref b _ ((ws.drop (i.toNat*sz)).take sz) row ((hr.drop _).take _) ?_ .nil),fun s r h=>by cases h⟩
       ·have:i<(rows.length:Int):=by omega
        simp [Instr.indexAt,asIntOf,run_underlying hd,h0,this,e1B hsz,g1K]
       ·have:=(h2.drop (i.toNat*sz)).take sz
        rwa [v1U hl hrow] at this
     ·cases h
    ·cases h
   ·cases h
  ·cases h
 ·rename_i len e k i hd
  split at h
  ·rename_i hb
   split at h
   ·rename_i n hn
    have key:∀b o,(Instr.indexAt t (.pointer (some ⟨b,o,none⟩)) (.int k i)).run P w=.ok (.pointer (some ⟨b,o+i.toNat*n,none⟩)) w:=fun b o=>by
     simp [Instr.indexAt,asIntOf,run_underlying hd,hb,Instr.sureAddr,e1B hn,g1K]
    cases hi
    split at h
    ·rename_i cs
     split at h
     ·simp only[Option.some.injEq] at h;subst h
      cases hv with
      |ref b o ws cs hr h2 _=>exact⟨_,key b o,.of (.ref _ _ _ _ (hr.drop _) (h2.drop _) .nil),fun s r h=>by cases h⟩
     ·cases h
    ·rename_i id o
     simp only[Option.some.injEq] at h;subst h
     cases hv with
     |ptr id off b hb _=>exact⟨_,key b o,.of (.ptr _ _ _ hb .nil),fun s r h=>by cases h⟩
    ·rename_i t' g o
     simp only[Option.some.injEq] at h;subst h
     obtain⟨g',cs,b,ws,e1,e2,e3,b',rfl,e5⟩:=hv
     exact⟨_,key b' o,⟨g',cs,b,ws,e1,e2,e3,b',rfl,e5⟩,fun s r h=>by cases h⟩
    ·cases h
   ·cases h
  ·cases h
 ·cases h
def r1p (I:Mem) (μ:List Nat) (vx:Option Value) (x:Option AV):Prop:=(x=none∧vx=none)∨∃a v,x=some a∧vx=some v∧Rep I μ v a
theorem h1f {a:AV} {v:Value} {dflt most n:Nat} (hx:Rep I μ v a) (h:bound? (some a) dflt most=some n):
  n≤most∧∀(w:World) c most',most≤most'→(Instr.sliceBound v most' c).run P w=.ok n w:=by
 unfold bound? at h
 split at h
 ·rename_i e;cases e
 ·rename_i k i e
  cases e
  cases hx
  split at h
  ·rename_i hb;simp only[Option.some.injEq] at h;subst h
   refine⟨by omega,fun w c most' hm=>?_⟩
   have:i≤(most':Int):=by omega
   simp [Instr.sliceBound,asIntOf,hb,this]
  ·cases h
 ·cases h
theorem n1w {lo hi:Option AV} {vl vh:Option Value} {len cap h l:Nat} (b:Bool) (hl:r1p I μ vl lo) (hh:r1p I μ vh hi) (h1:bound? hi len len=some h) (h2:bound? lo 0 h=some l) (hc:len≤cap):
  l≤h∧h≤len∧∀w:World,(Instr.sliceBounds b len cap vl vh none).run P w=.ok (l,h,cap) w:=by
 have H:h≤len∧((vh=none∧h=len)∨∃v,vh=some v∧∀(w:World) c,(Instr.sliceBound v cap c).run P w=.ok h w):=by
  rcases hh with ⟨rfl,rfl⟩|⟨a,v,rfl,rfl,hr⟩
  ·simp [bound?] at h1;exact⟨by omega,.inl ⟨rfl,h1.symm⟩⟩
  ·obtain⟨e1,e2⟩:=h1f (P:=P) hr h1;exact⟨e1,.inr ⟨v,rfl,fun w c=>e2 w c cap hc⟩⟩
 have L:l≤h∧((vl=none∧l=0)∨∃v,vl=some v∧∀(w:World) c,(Instr.sliceBound v h c).run P w=.ok l w):=by
  rcases hl with ⟨rfl,rfl⟩|⟨a,v,rfl,rfl,hr⟩
  ·simp [bound?] at h2;exact⟨by omega,.inl ⟨rfl,h2.symm⟩⟩
  ·obtain⟨e1,e2⟩:=h1f (P:=P) hr h2;exact⟨e1,.inr ⟨v,rfl,fun w c=>e2 w c h (Nat.le_refl _)⟩⟩
 refine⟨L.1,H.1,fun w=>?_⟩
 rcases H.2 with ⟨rfl,rfl⟩|⟨v1,rfl,e1⟩<;>rcases L.2 with ⟨rfl,rfl⟩|⟨v2,rfl,e2⟩<;>simp [Instr.sliceBounds, *]
theorem s1h {lo:Option AV} {m hi:AV} {vl:Option Value} {vm vh:Value} {len cap h l n:Nat} (b:Bool) (hl:r1p I μ vl lo) (hh:Rep I μ vh hi) (hm:Rep I μ vm m) (h0:bound? (some m) 0 len=some n)
  (h1:bound? (some hi) 0 n=some h) (h2:bound? lo 0 h=some l) (hc:len≤cap):
  l≤h∧h≤n∧n≤len∧∀w:World,(Instr.sliceBounds b len cap vl (some vh) (some vm)).run P w=.ok (l,h,n) w:=by
 obtain⟨a1,a2⟩:=h1f (P:=P) hm h0
 obtain⟨b1,b2⟩:=h1f (P:=P) hh h1
 have L:l≤h∧((vl=none∧l=0)∨∃v,vl=some v∧∀(w:World) c,(Instr.sliceBound v h c).run P w=.ok l w):=by
  rcases hl with ⟨rfl,rfl⟩|⟨a,v,rfl,rfl,hr⟩
  ·simp [bound?] at h2;exact⟨by omega,.inl ⟨rfl,h2.symm⟩⟩
  ·obtain⟨e1,e2⟩:=h1f (P:=P) hr h2;exact⟨e1,.inr ⟨v,rfl,fun w c=>e2 w c h (Nat.le_refl _)⟩⟩
 refine⟨L.1,b1,a1,fun w=>?_⟩
 have a2':=fun c=>a2 w c cap hc
 have b2':=fun c=>b2 w c n (Nat.le_refl _)
 rcases L.2 with ⟨rfl,rfl⟩|⟨v2,rfl,e2⟩<;>simp [Instr.sliceBounds, *]
theorem u1p {rows:List (List AV)} {sz:Nat} (hl:∀r∈rows,r.length=sz) (i:Nat):(rows.drop i).flatten=rows.flatten.drop (i*sz):=by
 induction rows generalizing i with
 |nil=>simp
 |cons x rows ih=>
  have hx:x.length=sz:=hl x (by simp)
  cases i with
  |zero=>simp
  |succ i=>
   rw[List.drop_succ_cons,ih (fun r hr=>hl r (by simp [hr])),List.flatten_cons,Nat.succ_mul,Nat.add_comm,←List.drop_drop,List.drop_append_of_le_length (by omega),List.drop_of_length_le (l:=x) (by omega),List.nil_append]
theorem u1q {rows:List (List AV)} {sz:Nat} (hl:∀r∈rows,r.length=sz) (i:Nat):(rows.take i).flatten=rows.flatten.take (i*sz):=by
 induction rows generalizing i with
 |nil=>simp
 |cons x rows ih=>
  have hx:x.length=sz:=hl x (by simp)
  cases i with
  |zero=>simp
  |succ i=>
   rw[List.take_succ_cons,List.flatten_cons,ih (fun r hr=>hl r (by simp [hr])),List.flatten_cons,Nat.succ_mul,List.take_append,List.take_of_length_le (l:=x) (by omega),hx,Nat.add_sub_cancel]
theorem g2X {b o sz cap' l n:Nat} {ws:List Value} {rows:List (List AV)} {own:Own} (hr:ReadAt I b o ws) (h2:RepL I μ ws rows.flatten) (hl:∀r∈rows,r.length=sz)
  (hn:l+n≤rows.length) (hc:n≤cap') (hf:own=.full→cap'=n):Rep I μ (.slice (some ⟨b,o+l*sz,none⟩) n cap') (.slice sz ((rows.drop l).take n) own):=by
 have hl':∀r∈rows.drop l,r.length=sz:=fun r hr=>hl r (List.mem_of_mem_drop hr)
 have e:((rows.drop l).take n).length=n:=by simp;omega
 have:=RepL.slice (I:=I) (μ:=μ) (vs:=[]) (asq:=[]) b (o+l*sz) cap' sz ((ws.drop (l*sz)).take (n*sz)) ((rows.drop l).take n) own ((hr.drop _).take _)
  (by rw[u1q hl',u1p hl];exact(h2.drop _).take _) (fun r hr=>hl' r (List.mem_of_mem_take hr)) (by rw[e];exact hc) (by rw[e];exact hf) .nil
 rwa [e] at this
theorem v1V {b o sz:Nat} {rows:List (List AV)} {own:Own} (h0:rows=[]):Rep I μ (.slice (some ⟨b,o,none⟩) 0 0) (.slice sz rows own):=by
 subst h0
 exact RepL.slice (I:=I) (μ:=μ) (vs:=[]) (asq:=[]) b o 0 sz [] [] own (fun i v h=>by simp at h) .nil (fun r hr=>by simp at hr) (Nat.le_refl _) (fun _=>rfl) .nil
theorem u1r {t e:TypeId} {a:Option Addr} {len cap l h m n:Nat} {vl vh vm:Option Value} (hd:P.underlying t=some (.slice e)) (hn:size? P e=some n)
  (hb:(Instr.sliceBounds true len cap vl vh vm).run P w=.ok (l,h,m) w):
  (Instr.sliceAt t (.slice a len cap) vl vh vm).run P w=.ok (.slice (if m=l then a else a.map (·.add (l*n))) (h-l) (m-l)) w:=by
 simp [Instr.sliceAt,Instr.slice,run_underlying hd,hb,e1B hn]
theorem u1s {v:Value} {sz l h m:Nat} {rows:List (List AV)} {own own':Own} {n:Nat} (hv:Rep I μ v (.slice sz rows own)) (hsz:rows=[]∨n=sz) (hlh:l≤h) (hh:h≤rows.length)
  {a:Option Addr} {len cap:Nat} (e:v=.slice a len cap) (hm:h≤m) (hmc:m≤cap) (hf:own'=.full→m=h) (hy:own'≠ .yes):
  Rep I μ (.slice (if m=l then a else a.map (·.add (l*n))) (h-l) (m-l)) (.slice sz ((rows.drop l).take (h-l)) own'):=by
 cases hv with
 |slice0=>
  cases e
  simp at hh
  obtain rfl:h=0:=by omega
  obtain rfl:l=0:=by omega
  obtain rfl:m=0:=by omega
  simpa using RepL.slice0 (I:=I) (μ:=μ) (vs:=[]) (asq:=[]) sz own' .nil
 |slice1 a' cap' sz own ho _=>
  cases e
  simp at hh
  obtain rfl:h=0:=by omega
  obtain rfl:l=0:=by omega
  have ho':own'=.no∨(own'=.full∧m=0):=by
   cases own' with
   |no=>exact .inl rfl
   |full=>exact .inr ⟨rfl,hf rfl⟩
   |yes=>exact absurd rfl hy
  have:=RepL.slice1 (I:=I) (μ:=μ) (vs:=[]) (asq:=[]) (if m=0 then a' else a'.add 0) m sz own' ho' .nil
  by_cases hm0:m=0
  ·subst hm0;simpa using this
  ·simpa [hm0] using this
 |slice b o cap' sz ws rows own hr h2 hl' hc hf' _=>
  cases e
  by_cases hml:m=l
  ·subst hml
   obtain rfl:h=m:=by omega
   simp only[if_true,Nat.sub_self]
   exact v1V (by simp)
  ·simp only[hml,if_false,Option.map_some,g1K]
   rcases hsz with rfl|rfl
   ·simp at hh
    obtain rfl:h=0:=by omega
    obtain rfl:l=0:=by omega
    simp only[Nat.zero_mul,Nat.add_zero,Nat.sub_zero,List.drop_nil,List.take_nil]
    have:=RepL.slice (I:=I) (μ:=μ) (vs:=[]) (asq:=[]) b o m sz [] [] own' (fun i v h=>by simp at h) .nil (fun r hr=>by simp at hr) (Nat.zero_le _) (fun h=>hf h) .nil
    simpa using this
   ·exact g2X hr h2 hl' (by omega) (by omega) (fun hfu=>by have:=hf hfu;omega)
theorem d1I {v:Value} {a r:AV} {t:TypeId} {lo hi mx:Option AV} {vl vh vm:Option Value} (hv:Rep I μ v a) (hl:r1p I μ vl lo) (hh:r1p I μ vh hi) (hm:r1p I μ vm mx)
  (h:k1I P t a lo hi mx=some r):∃v',(Instr.sliceAt t v vl vh vm).run P w=.ok v' w∧Rep I μ v' r∧NoOwn r:=by
 unfold k1I at h
 split at h
 ·rename_i s hd
  split at h
  ·rename_i hx hb
   rcases hm with ⟨_,rfl⟩|⟨_,_,hm1,_⟩
   rotate_left
   ·cases hm1
   split at h
   ·rename_i l hlo
    simp only[Option.some.injEq] at h;subst h
    cases hv
    obtain⟨_,_,hrun⟩:=n1w (P:=P) false hl hh hb hlo (Nat.le_refl _)
    exact⟨_,by simp [Instr.sliceAt,Instr.slice,run_underlying hd,hrun w],.val _ .nil,fun s r h=>by cases h⟩
   ·cases h
  ·cases h
 ·rename_i e sz rows own hd
  obtain⟨base,len,cap,rfl⟩:∃b l c,v=.slice b l c:=by cases hv<;>exact⟨_,_,_,rfl⟩
  obtain⟨rfl,hcap,hfull⟩:len=rows.length∧rows.length≤cap∧(own=.full→cap=rows.length):=by
   cases hv with
   |slice1 a cap sz own ho _=>exact⟨rfl,by simp,fun hf=>by rcases ho with h|⟨_,h⟩<;>simp_all⟩
   |_=>simp_all
  split at h
  ·rename_i n hn
   split at h
   ·rename_i hsz
    split at h
    ·rcases hm with ⟨_,rfl⟩|⟨_,_,hm1,_⟩
     rotate_left
     ·cases hm1
     split at h
     ·rename_i h' hb
      split at h
      ·rename_i l hlo
       simp only[Option.some.injEq] at h;subst h
       obtain⟨h1,h2,hrun⟩:=n1w (P:=P) true hl hh hb hlo hcap
       refine⟨_,u1r hd hn (hrun w),u1s hv hsz h1 h2 rfl (Nat.le_trans h2 hcap) (Nat.le_refl _) ?_ (by split<;>simp),fun s r h=>by split at h<;>cases h⟩
       intro hfu
       split at hfu
       ·rename_i hc
        rw[hc.1];exact hfull hc.2
       ·cases hfu
      ·cases h
     ·cases h
    ·rcases hm with ⟨hm1,_⟩|⟨m',vm',hm1,rfl,hrm⟩
     ·cases hm1
     cases hm1
     split at h
     ·cases h
     ·rcases hh with ⟨hh1,_⟩|⟨hi',vh',hh1,rfl,hrh⟩
      ·cases hh1
      cases hh1
      split at h
      ·rename_i m0 hm0
       split at h
       ·rename_i h' hb
        split at h
        ·rename_i l hlo
         simp only[Option.some.injEq] at h;subst h
         obtain⟨h1,h2,h3,hrun⟩:=s1h (P:=P) true hl hrh hrm hm0 hb hlo hcap
         refine⟨_,u1r hd hn (hrun w),u1s hv hsz h1 (by omega) rfl h2 (by omega) ?_ (by split<;>simp),fun s r h=>by split at h<;>cases h⟩
         intro hfu
         split at hfu
         ·rename_i hc;exact hc.symm
         ·cases hfu
        ·cases h
       ·cases h
      ·cases h
   ·cases h
  ·cases h
 ·cases h
theorem i1e (t:TypeId) (x y:Operand) (a b:Value) (d:TypeDesc) (r:Bool) (hd:P.underlying t=some d) (h1:(eqGuard .eql t x y a b).run P w=.ok () w) (h1':(eqGuard .neq t x y a b).run P w=.ok () w)
  (h2:(binOp .eql t a b)=(do pure (.bool (←Op.equal t a b)))) (h2':(binOp .neq t a b)=(do pure (.bool (!(←Op.equal t a b)))))
  (h3:(Op.equalIn (9999+1) t a b).run P w=.ok r w):
  (do eqGuard .eql t x y a b;binOp .eql t a b:Sem Value).run P w=.ok (.bool r) w∧(do eqGuard .neq t x y a b;binOp .neq t a b:Sem Value).run P w=.ok (.bool (!r)) w:=by
 have h4:(Op.equal t a b).run P w=.ok r w:=h3
 simp [h1,h1',h2,h2',h4]
theorem k1K {t:TypeId} {x y:Operand} {va vb:Value} {a b:AV} {r:Bool} (ha:TRep I μ lh lv va a) (hb:TRep I μ lh lv vb b) (h:g1D P t a b=some r):
  (do eqGuard .eql t x y va vb;binOp .eql t va vb:Sem Value).run P w=.ok (.bool r) w∧(do eqGuard .neq t x y va vb;binOp .neq t va vb:Sem Value).run P w=.ok (.bool (!r)) w:=by
 unfold g1D at h
 split at h
 all_goals (try (cases h;done))
 all_goals
  rename_i hd
  simp only[Option.some.injEq] at h
  subst h
 ·cases ha;cases hb;exact i1e _ _ _ _ _ _ _ hd rfl rfl rfl rfl (by rw[Op.equalIn];simp [run_underlying hd])
 ·cases ha;cases hb;exact i1e _ _ _ _ _ _ _ hd rfl rfl rfl rfl (by rw[Op.equalIn];simp [run_underlying hd])
 ·cases ha;obtain⟨_,_,_,_,_,_,_,_,rfl,_⟩:=hb;exact i1e _ _ _ _ _ _ _ hd rfl rfl rfl rfl (by rw[Op.equalIn];simp [run_underlying hd])
 ·cases ha;cases hb;exact i1e _ _ _ _ _ _ _ hd rfl rfl rfl rfl (by rw[Op.equalIn];simp [run_underlying hd])
 ·cases ha;cases hb;exact i1e _ _ _ _ _ _ _ hd rfl rfl rfl rfl (by rw[Op.equalIn];simp [run_underlying hd])
 ·cases hb;obtain⟨_,_,_,_,_,_,_,_,rfl,_⟩:=ha;exact i1e _ _ _ _ _ _ _ hd rfl rfl rfl rfl (by rw[Op.equalIn];simp [run_underlying hd])
 ·cases ha;cases hb;exact i1e _ _ _ _ _ _ _ hd rfl rfl rfl rfl (by rw[Op.equalIn];simp [run_underlying hd])
 ·cases ha;cases hb;exact i1e _ _ _ _ _ _ _ hd rfl rfl rfl rfl (by rw[Op.equalIn];simp [run_underlying hd])
 ·cases ha;cases hb;exact i1e _ _ _ _ _ _ _ hd rfl rfl rfl rfl (by rw[Op.equalIn];simp [run_underlying hd])
 ·cases ha;cases hb;exact i1e _ _ _ _ _ _ _ hd rfl rfl rfl rfl (by rw[Op.equalIn];simp [run_underlying hd])
theorem f1d {v w':Value} {a:AV} (h:TRep I μ lh lv v a) (ha:a.toVal=some w'):v=w':=by
 cases a with
 |lp=>simp [AV.toVal] at ha
 |_=>exact b2e h ha
theorem y1M {op:BinOp} {t:TypeId} {x y:Operand} {va vb:Value} {a b r:AV} (ha:TRep I μ lh lv va a) (hb:TRep I μ lh lv vb b) (h:abin P op t x y a b=some r):
  ∃v',(do eqGuard op t x y va vb;binOp op t va vb:Sem Value).run P w=.ok v' w∧Rep I μ v' r∧NoOwn r:=by
 unfold abin at h
 split at h
 ·rename_i ua ub hua hub
  obtain rfl:=f1d ha hua
  obtain rfl:=f1d hb hub
  simp only[Option.map_eq_some_iff] at h
  obtain⟨v,hv,rfl⟩:=h
  exact⟨v,i1w P hv w,.ofVal v,e1q v⟩
 ·split at h
  ·simp only[Option.map_eq_some_iff] at h
   obtain⟨v,hv,rfl⟩:=h
   exact⟨_,(k1K ha hb hv).1,.val _ .nil,fun s r h=>by cases h⟩
  ·simp only[Option.map_eq_some_iff] at h
   obtain⟨v,hv,rfl⟩:=h
   exact⟨_,(k1K ha hb hv).2,.val _ .nil,fun s r h=>by cases h⟩
  ·cases h
theorem p1k {ws:List Value} {rows:List (List AV)} {l:List UInt8} (h:b1V rows=some l) (hr:RepL I μ ws rows.flatten):
  ∃ns:List Int,ws=ns.map (Value.int .u8)∧l=ns.map fun n=>UInt8.ofNat n.toNat:=by
 induction rows generalizing ws l with
 |nil=>simp [b1V] at h;subst h;cases hr;exact⟨[],rfl,rfl⟩
 |cons r rows ih=>
  unfold b1V at h
  split at h
  ·rename_i e;cases e
  ·rename_i n rest e
   cases e
   simp only[Option.map_eq_some_iff] at h
   obtain⟨l',hl',rfl⟩:=h
   simp only[List.flatten_cons,List.singleton_append] at hr
   cases ws with
   |nil=>cases hr
   |cons w ws=>
    obtain⟨h1,h2⟩:=hr.uncons
    cases h1
    obtain⟨ns,rfl,rfl⟩:=ih hl' h2
    exact⟨n::ns,rfl,rfl⟩
  ·cases h
theorem u1t (ns:List Int):∀s:ByteArray,ns.foldl (fun r n=>r.push (UInt8.ofNat n.toNat)) s=⟨s.data++(ns.map fun n=>UInt8.ofNat n.toNat).toArray⟩:=by
 induction ns with
 |nil=>intro s;simp
 |cons n ns ih=>intro s;rw[List.foldl_cons,ih];simp [ByteArray.push]
theorem i1f {rows:List (List AV)} {sz:Nat} (hl:∀r∈rows,r.length=sz):rows.flatten.length=rows.length*sz:=by
 induction rows with
 |nil=>simp
 |cons x rows ih=>simp [ih fun r hr=>hl r (by simp [hr]),hl x (by simp),Nat.succ_mul,Nat.add_comm]
theorem p1l {rows:List (List AV)} {l:List UInt8} (h:b1V rows=some l):∀r∈rows,r.length=1:=by
 induction rows generalizing l with
 |nil=>simp
 |cons r rows ih=>
  unfold b1V at h
  split at h
  ·rename_i e;cases e
  ·rename_i n rest e
   cases e
   simp only[Option.map_eq_some_iff] at h
   obtain⟨l',hl',rfl⟩:=h
   intro r hr
   simp at hr
   rcases hr with rfl|hr
   ·rfl
   ·exact ih hl' r hr
  ·cases h
theorem q1C (hI:ImmOk I w) {src dst:TypeId} {v:Value} {a r:AV} (hv:Rep I μ v a) (h:g1d P src dst a=some r):
  ∃v',(convert src dst v).run P w=.ok v' w∧Rep I μ v' r∧NoOwn r:=by
 unfold g1d at h
 split at h
 ·cases hv
  simp only[Option.map_eq_some_iff] at h
  obtain⟨v,hv,rfl⟩:=h
  exact⟨v,i1w P hv w,.ofVal v,e1q v⟩
 ·rename_i sz rows own
  split at h
  ·rename_i e hs hd
   split at h
   ·rename_i l he hl
    simp only[Option.some.injEq] at h;subst h
    refine⟨.string ⟨l.toArray⟩,?_,.val _ .nil,fun s r h=>by cases h⟩
    cases hv with
    |slice0=>
     simp [b1V] at hl;subst hl
     simp [convert,run_underlying hs,run_underlying hd,run_underlying he,Conv.bytesToString]
     rfl
    |slice1 a cap sz own ho _=>
     simp [b1V] at hl;subst hl
     have:=run_bytesToString (P:=P) w a 0 cap [] (by simp [loadCells,loadCellsFrom])
     rw[u1t] at this
     simp [convert,run_underlying hs,run_underlying hd,run_underlying he,this]
    |slice b o cap sz ws rows own hr h2 hl' hc hf _=>
     obtain⟨ns,rfl,rfl⟩:=p1k hl h2
     have hlen:(ns.map (Value.int .u8)).length=rows.length:=by rw[h2.length,i1f (p1l hl)];omega
     have hrun:=j1B (P:=P) (hr.cells hI)
     rw[hlen] at hrun
     have:=run_bytesToString w ⟨b,o,none⟩ rows.length cap ns hrun
     rw[u1t] at this
     simp [convert,run_underlying hs,run_underlying hd,run_underlying he,this]
   ·cases h
  ·cases h
 ·cases h
theorem y1N {t ty:TypeId} {ts:Array TypeId} (ht:ts[0]? =some t) {v:Value} {a r:AV} (hv:Rep I μ v a) (h:alen P t a=some r):
  ∃v',(Builtin.len_ ts ty #[v]).run P w=.ok v' w∧Rep I μ v' r∧NoOwn r:=by
 unfold alen at h
 split at h
 ·rename_i e sz rows own hd
  simp only[Option.some.injEq] at h;subst h
  refine⟨.int .i64 rows.length,?_,.val _ .nil,fun s r h=>by cases h⟩
  cases hv with
  |slice0=>simp [Builtin.len_,ht,run_underlying hd,goInt]
  |slice=>simp [Builtin.len_,ht,run_underlying hd,goInt]
  |slice1=>simp [Builtin.len_,ht,run_underlying hd,goInt]
 ·rename_i s hd
  simp only[Option.some.injEq] at h;subst h
  cases hv
  exact⟨.int .i64 s.size,by simp [Builtin.len_,ht,run_underlying hd,goInt],.val _ .nil,fun s r h=>by cases h⟩
 ·cases h
theorem m1K {t x:TypeId} {ok:Bool} {v:Value} {a r:AV} (hv:Rep I μ v a) (h:e1X P a t ok=some r):
  ∃v',(Instr.typeAssert v x t ok).run P w=.ok v' w∧Rep I μ v' r∧NoOwn r:=by
 have hfail:∀(z:Value),(P.info? t).bind (·.zero)=some z→(zeroValue t).run P w=.ok z w:=fun z hz=>by
  cases hi:P.info? t with
  |none=>simp [hi] at hz
  |some i=>simp [hi] at hz;simp [zeroValue,typeInfo,hi,hz]
 unfold e1X at h
 simp only at h
 split at h
 ·cases h
 ·cases h
 ·rename_i d hnot hd
  split at h
  ·rename_i t' av
   cases hv with
   |iface t' v' a h1 _=>
    split at h
    ·rename_i htt
     subst htt
     simp only[Option.some.injEq] at h;subst h
     refine⟨if ok then .tuple #[v',.bool true] else v',?_,?_,?_⟩
     ·cases d<;>first|exact absurd rfl (hnot _)|simp [Instr.typeAssert,run_underlying hd]
     ·cases ok
      ·exact h1.dis
      ·exact .tuple _ _ (.cons h1 (.val _ .nil)) .nil
     ·cases ok
      ·exact .dis _
      ·intro s r h;cases h
    ·rename_i htt
     split at h
     ·rename_i hok
      subst hok
      split at h
      ·rename_i z hz
       simp only[Option.some.injEq] at h;subst h
       refine⟨.tuple #[z,.bool false],?_,.tuple _ _ (.cons (.ofVal z) (.val _ .nil)) .nil,fun s r h=>by cases h⟩
       cases d<;>first|exact absurd rfl (hnot _)|simp [Instr.typeAssert,run_underlying hd,Ne.symm htt,htt,hfail z hz]
      ·cases h
     ·cases h
  ·cases hv
   split at h
   ·rename_i hok
    subst hok
    split at h
    ·rename_i z hz
     simp only[Option.some.injEq] at h;subst h
     refine⟨.tuple #[z,.bool false],?_,.tuple _ _ (.cons (.ofVal z) (.val _ .nil)) .nil,fun s r h=>by cases h⟩
     cases d<;>first|exact absurd rfl (hnot _)|simp [Instr.typeAssert,run_underlying hd,hfail z hz]
    ·cases h
   ·cases h
  ·cases h
theorem q1D {i:Nat} {v:Value} {a r:AV} (hv:Rep I μ v a) (h:g1f a i=some r):∃v',(Instr.extract v i).run P w=.ok v' w∧Rep I μ v' r∧NoOwn r:=by
 unfold g1f at h
 split at h
 ·rename_i vs
  cases hv with
  |tuple ws aws h1 _=>
   cases hc:vs[i]? with
   |none=>simp [hc] at h
   |some c=>
    simp [hc] at h;subst h
    obtain⟨v,hv,hrep⟩:=h1.get' hc
    have hv':ws[i]? =some v:=by simpa using hv
    exact⟨v,by simp [Instr.extract,hv'],hrep.dis,.dis c⟩
 ·rename_i vs
  cases hv
  cases hc:vs[i]? with
  |none=>simp [hc] at h
  |some c=>simp [hc] at h;subst h;exact⟨c,by simp [Instr.extract,hc],.ofVal c,e1q c⟩
 ·cases h
theorem k1G {t:TypeId} {v:Value} {a r:AV} (hv:TRep I μ lh lv v a) (h:e1h P t a=some r):∃v',(Instr.makeInterface t v).run P w=.ok v' w∧Rep I μ v' r∧NoOwn r:=by
 unfold e1h at h
 split at h
 ·cases h
 ·cases h
 ·rename_i d hnot hd
  split at h
  ·cases h
  ·rename_i hlp
   simp only[Option.some.injEq] at h;subst h
   refine⟨.iface t v,?_,.iface t v a (hv.rep (by simpa using hlp)) .nil,fun s r h=>by cases h⟩
   cases d<;>first|exact absurd rfl (hnot _)|simp [Instr.makeInterface,run_underlying hd]
theorem p1m {v:Value} {a r:AV} (hv:TRep I μ lh lv v a) (h:g1V a=some r):r=a∧((∃b o,v=.pointer (some ⟨b,o,none⟩))∨∃g f c,v=.func (.func g) f c)∧NoOwn r:=by
 unfold g1V at h
 split at h
 ·simp only[Option.some.injEq] at h;subst h;cases hv;exact⟨rfl,.inl ⟨_,_,rfl⟩,fun s r h=>by cases h⟩
 ·simp only[Option.some.injEq] at h;subst h;cases hv;exact⟨rfl,.inl ⟨_,_,rfl⟩,fun s r h=>by cases h⟩
 ·simp only[Option.some.injEq] at h;subst h;obtain⟨_,_,_,_,_,_,_,_,rfl,_⟩:=hv;exact⟨rfl,.inl ⟨_,_,rfl⟩,fun s r h=>by cases h⟩
 ·simp only[Option.some.injEq] at h;subst h;cases hv;exact⟨rfl,.inr ⟨_,_,_,rfl⟩,fun s r h=>by cases h⟩
 ·cases h
def TRepL (I:Mem) (μ:List Nat) (lh:List (Option LCell)) (lv:List LV) (vs:List Value) (asq:List AV):Prop:=
 vs.length=asq.length∧∀(i:Nat) v a,vs[i]? =some v→asq[i]? =some a→TRep I μ lh lv v a
theorem TRepL.uncons {v:Value} {a:AV} {vs:List Value} {asq:List AV} (h:TRepL I μ lh lv (v::vs) (a::asq)):TRep I μ lh lv v a∧TRepL I μ lh lv vs asq:=
 ⟨h.2 0 v a rfl rfl,by simpa using h.1,fun i w b hw hb=>h.2 (i+1) w b (by simpa using hw) (by simpa using hb)⟩
theorem TRepL.nil:TRepL I μ lh lv [] []:=⟨rfl,fun i v a h=>by simp at h⟩
theorem TRepL.cons {v:Value} {a:AV} {vs:List Value} {asq:List AV} (h:TRep I μ lh lv v a) (k:TRepL I μ lh lv vs asq):TRepL I μ lh lv (v::vs) (a::asq):=by
 refine⟨by simp [k.1],fun i w b hw hb=>?_⟩
 cases i with
 |zero=>simp at hw hb;subst hw hb;exact h
 |succ i=>exact k.2 i w b (by simpa using hw) (by simpa using hb)
theorem TRepL.inv {vs:List Value} {a:AV} {asq:List AV} (h:TRepL I μ lh lv vs (a::asq)):∃v vs',vs=v::vs'∧TRep I μ lh lv v a∧TRepL I μ lh lv vs' asq:=by
 cases vs with
 |nil=>have:=h.1;simp at this
 |cons v vs=>exact⟨v,vs,rfl,h.uncons.1,h.uncons.2⟩
theorem TRepL.inv0 {vs:List Value} (h:TRepL I μ lh lv vs []):vs=[]:=by
 have:=h.1;simpa using this
theorem TRepL.repL {vs:List Value} {asq:List AV} (h:TRepL I μ lh lv vs asq) (ha:asq.any AV.isLp=false):RepL I μ vs asq:=by
 refine .of_get h.1 fun i v a hv hb=>(h.2 i v a hv hb).rep ?_
 have:=List.any_eq_false.1 ha a (List.mem_of_getElem? hb)
 simpa using this
theorem p1n {vs ws:List Value} {asq:List AV} (h:TRepL I μ lh lv vs asq) (ha:g1w asq=some ws):vs=ws:=by
 induction asq generalizing vs ws with
 |nil=>simp [g1w] at ha;rw[h.inv0,ha]
 |cons a asq ih=>
  obtain⟨v,vs',rfl,h1,h2⟩:=h.inv
  unfold g1w at ha
  split at ha
  ·rename_i u l hu hl
   simp only[Option.some.injEq] at ha;subst ha
   rw[f1d h1 hu,ih h2 hl]
  ·cases ha
end
end Go.Eng
end
