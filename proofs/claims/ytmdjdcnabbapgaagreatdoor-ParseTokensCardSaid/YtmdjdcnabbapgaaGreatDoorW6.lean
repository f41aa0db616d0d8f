/- Texts of this proof folded into one: E27 E28 E29 E30 TC. -/
import Derived.Test.YtmdjdcnabbapgaaGreatDoorW5
import Derived.IntWalk
import Derived.Test.YtmdjdcnabbapgaaGreatDoorW4
import Derived.ChangeArms
import Derived.ChangeSlices
import Derived.DataReads
import Derived.Lib.ParseIntB
import Derived.Lib.Join
import Derived.Lib.Bytealg
import Derived.Test.YtmdjdcnabbapgaaGreatDoorProg
import Derived.KernelRfl
section
/-
  THE ENGINE, part 27: trees of the second kind (KT): calls that are gone into or asked, loops anywhere, deferred calls, panics.
-/
set_option linter.unusedVariables false
set_option linter.unusedSimpArgs false
namespace Go.Eng
inductive KSh where
 |any
 |bool
 |int (k:IntKind)
 |str
 |slice (sz:Nat) (own:Own)
 |ref (l:List KSh)
 |agg (l:List KSh)
 |const (v:AV)
 |alt (a b:KSh)
 deriving Inhabited
inductive KRs where
 |one (c:KSh)
 |tup (l:List KSh)
 |agg (l:List KSh)
 |arg (i:Nat)
 deriving Inhabited
inductive KM where
 |inl (cut:Bool)
 |keep
 |con (ret:Option KRs) (pan:Option (TypeId×KSh)) (heap:Bool)
 deriving Inhabited
inductive KT where
 |fail
 |done (s:St)
 |out (t:KT)
 |ret (r:CRes)
 |branch (b:Bool) (t f:KT)
 |need (b:Bool) (k:KT)
 |exI (k:Int→KT)
 |exB (k:Bool→KT)
 |exS (k:ByteArray→KT)
 |exR (k:List (List AV)→KT)
 |exA (k:AV→KT)
 |exY (k:UInt8→KT)
 |row (rows:List (List AV)) (i:Int) (cells:List AV) (k:KT)
 |byte (s:ByteArray) (i:Int) (b:UInt8) (k:KT)
 |bytes (rows:List (List AV)) (s:ByteArray) (k:KT)
 |prop (p:Prop) (k:KT)
 |call (g:FuncId) (args:List AV) (rm:RM) (H:Heap) (r:CRes) (k:KT)
 |alt (t f:KT)
 |stage (t:KT) (k:St→KT)
 |loop (f:FuncId) (b:Nat) (x:Code) (s:St) (k:AX→St→KT)
section
variable (P:Program) (cfg:FuncId→FCfg) (call:CallF)
def KT.wp (QD:List (St→Prop)) (QR:CRes→Prop):KT→Prop
 | .fail=>False
 | .done s=>match QD with
  |Q::_=>Q s
  |[]=>False
 | .out t=>match QD with
  |_::r=>t.wp r QR
  |[]=>False
 | .ret r=>QR r
 | .branch b t f=>(b=true→t.wp QD QR)∧(b=false→f.wp QD QR)
 | .need b k=>b=true∧k.wp QD QR
 | .exI k=>∃i,(k i).wp QD QR
 | .exB k=>∃i,(k i).wp QD QR
 | .exS k=>∃i,(k i).wp QD QR
 | .exR k=>∃i,(k i).wp QD QR
 | .exA k=>∃i,(k i).wp QD QR
 | .exY k=>∃i,(k i).wp QD QR
 | .row rows i cells k=>(0≤i∧rows[i.toNat]? =some cells)∧k.wp QD QR
 | .byte s i b k=>(0≤i∧s[i.toNat]? =some b)∧k.wp QD QR
 | .bytes rows s k=>b1V rows=some s.data.toList∧k.wp QD QR
 | .prop p k=>p∧k.wp QD QR
 | .call g args rm H r k=>call g args rm H=some r∧k.wp QD QR
 | .alt t f=>t.wp QD QR∨f.wp QD QR
 | .stage t k=>t.wp ((fun s=>(k s).wp QD QR)::QD) QR
 | .loop f b x s k=>∀s1,f1u (d1H (cfg f).live b) s1=some s→WC P cfg call f b (.loop x) (fun r s'=>(k r s').wp QD QR) s1
end
def kclr (kn:Nat):Option Tmp→Nat
 |some t=>match kn.testBit t with
  |true=>kn^^^2^t
  |false=>kn
 |none=>kn
def g1I (kn:Nat):Operand→Bool
 | .tmp t=>kn.testBit t
 | .const _=>true
 |_=>false
def b2p (o:Oper) (kn:Nat) (s:St):Bool:=
 match o.op with
 | .move x=>g1I kn x
 | .assign x=>g1I kn x
 | .unOp _ _ x=>g1I kn x
 | .binOp _ _ x y _=>g1I kn x&&g1I kn y
 | .convert _ _ x=>g1I kn x
 | .pick (.tmp t) a b=>match kn.testBit t with
  |true=>match s.tmps[t]? with
   |some (.val (.bool true))=>g1I kn a
   |some (.val (.bool false))=>g1I kn b
   |_=>false
  |false=>false
 |_=>false
def kupd (kn:Nat) (o:Oper) (s:St):Nat:=
 match b2p o kn s with
 |true=>match o.dst with
  |some t=>kn|||2^t
  |none=>kn
 |false=>kclr kn o.dst
def u1c (s:St) (t:Tmp) (b:Bool):St:={s with tmps:=s.tmps.set t (.val (.bool b))}
def l1S:KSh→(AV→KT)→KT
 | .any,k=>.exA k
 | .bool,k=>.exB fun b=>k (.val (.bool b))
 | .int kd,k=>.exI fun i=>k (.val (.int kd i))
 | .str,k=>.exS fun s=>k (.val (.string s))
 | .slice sz own,k=>.exR fun l=>k (.slice sz l own)
 | .ref l,k=>go l fun cs=>k (.ref cs)
 | .agg l,k=>go l fun cs=>k (.agg cs)
 | .const v,k=>k v
 | .alt a b,k=>.alt (l1S a k) (l1S b k)
where go:List KSh→(List AV→KT)→KT
 |[],k=>k []
 |c::r,k=>l1S c fun v=>go r fun l=>k (v::l)
def r1l:List KSh→(List AV→KT)→KT
 |[],k=>k []
 |c::r,k=>l1S c fun v=>r1l r fun l=>k (v::l)
def kres (args:List AV):KRs→(AV→KT)→KT
 | .one c,k=>l1S c k
 | .tup l,k=>r1l l fun cs=>k (.tuple cs)
 | .agg l,k=>r1l l fun cs=>k (.agg cs)
 | .arg i,k=>k (args.getD i .any)
def kshOf:AV→KSh
 | .val (.int k _)=>.int k
 | .val (.bool _)=>.bool
 | .val (.string _)=>.str
 | .slice sz _ own=>.slice sz own
 |v=>.const v
def tySh (P:Program):Nat→TypeId→List KSh
 |0,_=>[]
 |n+1,t=>match P.underlying t with
  |some (.int k)=>[.int k]
  |some .bool=>[.bool]
  |some .string=>[.str]
  |some (.slice e)=>match size? P e with
   |some sz=>[.slice sz .no]
   |none=>[.any]
  |some (.struct fs)=>(fs.toList.map fun f=>tySh P n f.type).flatten
  |some (.array k e)=>(List.replicate k (tySh P n e)).flatten
  |_=>[.any]
def rowSh (P:Program) (t:TypeId):List KSh:=tySh P 8 t
def i2x (P:Program) (t:TypeId):KSh:=
 match isAgg? P t with
 |some true=>.agg (tySh P 8 t)
 |_=>match tySh P 8 t with
  |[c]=>c
  |_=>.any
def a1s (P:Program) (f:FuncId):KRs:=
 match P.funcs[f]? with
 |none=>.tup []
 |some fn=>match fn.resultTypes.toList with
  |[t]=>.one (i2x P t)
  |l=>.tup (l.map (i2x P))
def kheap:Heap→(Heap→KT)→KT
 |[],k=>k []
 |b::r,k=>r1l (b.map kshOf) fun cs=>kheap r fun H=>k (cs::H)
def kheap? (turn:Bool) (H:Heap) (k:Heap→KT):KT:=
 match turn with
 |true=>kheap H k
 |false=>k H
def kask (ret:Option KRs) (pan:Option (TypeId×KSh)) (heap:Bool) (g:FuncId) (args:List AV) (rm:RM) (H:Heap) (k:CRes→KT):KT:=
 let r:=fun s=>kres args s fun v=>kheap? heap H fun H'=>.call g args rm H ⟨.ret v,.none,H'⟩ (k ⟨.ret v,.none,H'⟩)
 let p:=fun (p:TypeId×KSh)=>l1S p.2 fun v=>kheap? heap H fun H'=>.call g args rm H ⟨.panic (.iface p.1 v),.none,H'⟩ (k ⟨.panic (.iface p.1 v),.none,H'⟩)
 match ret,pan with
 |some s,none=>r s
 |none,some q=>p q
 |some s,some q=>.alt (r s) (p q)
 |none,none=>.fail
abbrev KC:=FuncId→List AV→Nat→RM→Heap→(CRes→Bool→KT)→KT
def e2r (kn:Nat):Nat→List Operand→Nat
 |_,[]=>0
 |n,x::r=>match g1I kn x with
  |true=>2^n|||e2r kn (n+1) r
  |false=>e2r kn (n+1) r
def kset (kn:Nat) (known:Bool) (d:Option Tmp):Nat:=
 match known,d with
 |true,some t=>kn|||2^t
 |_,d=>kclr kn d
section
variable (P:Program) (cfg:FuncId→FCfg) (rs:TypeId→List KSh) (kc:KC)
def b2q (dsts:List (Option Tmp)) (o:Oper) (kn:Nat) (s:St) (k:Bool→Nat→St→KT):KT:=
 match o.guard with
 |none=>k true kn s
 |some (j,want)=>match dsts.getD j none with
  |none=>k false kn s
  |some t=>match s.tmps[t]? with
   |none=>k false kn s
   |some (.val (.bool b))=>match kn.testBit t with
    |true=>match b with
     |true=>k (true==want) kn s
     |false=>k (false==want) kn s
    |false=>.branch b (k (true==want) (kn|||2^t) (u1c s t true)) (k (false==want) (kn|||2^t) (u1c s t false))
   |some (.val _)=>k false kn s
   |some _=>.fail
def kkap (f:FuncId) (o:Oper) (s:St) (k:St→KT) (kp:AV→St→KT):KT:=
 match aop P cfg kNo f o s with
 |some (.next s')=>k s'
 |some (.panic v s')=>kp v s'
 |none=>.fail
def kput (f:FuncId) (o:Oper) (s:St) (v:AV):St:={s with tmps:=putT (disT s.tmps o.op.operands.toList (b1v cfg f o)) o.dst v}
def kbd (x:Option AV) (dflt:Int):Option Int:=
 match x with
 |none=>some dflt
 |some (.val (.int _ i))=>some i
 |_=>none
def b2r (t:TypeId) (a:AV) (lo hi:Option AV) (k:AV→KT):KT:=
 match P.underlying t,a with
 |some .string,.val (.string s)=>match kbd lo 0,kbd hi s.size with
  |some l,some h=>.need (decide (0≤l∧l≤h∧h≤(s.size:Int))) (k (.val (.string (s.extract l.toNat h.toNat))))
  |_,_=>.fail
 |some (.slice e),.slice sz rows own=>match size? P e,kbd lo 0,kbd hi rows.length with
  |some n,some l,some h=>.need (decide ((rows=[]∨n=sz)∧0≤l∧l≤h∧h≤(rows.length:Int))) (match hi,own with
   |none,.full=>k (.slice sz (rows.drop l.toNat) .full)
   |none,_=>k (.slice sz (rows.drop l.toNat) .no)
   |some _,.full=>.branch (decide (h=(rows.length:Int))) (k (.slice sz ((rows.drop l.toNat).take (h.toNat-l.toNat)) .full)) (k (.slice sz ((rows.drop l.toNat).take (h.toNat-l.toNat)) .no))
   |some _,_=>k (.slice sz ((rows.drop l.toNat).take (h.toNat-l.toNat)) .no))
  |_,_,_=>.fail
 |_,_=>.fail
def s1a:List AV→(List AV→KT)→KT
 |[],k=>k []
 |c::l,k=>s1a l fun l=>k (c::l)
def x1u:List (List AV)→(List (List AV)→KT)→KT
 |[],k=>k []
 |r::l,k=>s1a r fun r=>x1u l fun l=>k (r::l)
def b2s (e:TypeId) (sz:Nat) (rows:List (List AV)) (own:Own) (sz':Nat) (new:List (List AV)) (k:AV→KT):KT:=
 match P.info? e with
 |none=>.fail
 |some i=>match decide (sz'=i.size∧i.bytes≤4096∧i.zero.map (fun z=>z.cells.size)=some i.size) with
  |true=>match own with
   | .no=>.fail
   | .yes=>match decide (sz=i.size) with
    |true=>.need (Nat.ble (rows.length+new.length) 2147483648) (k (.slice i.size (rows++new.map (·.map AV.dis)) .yes))
    |false=>.fail
   | .full=>match decide (sz=i.size) with
    |true=>.need (Nat.ble (rows.length+new.length) 2147483648) (k (.slice i.size (rows++new.map (·.map AV.dis)) .yes))
    |false=>.need (rows.isEmpty&&Nat.ble new.length 2147483648) (k (.slice i.size (new.map (·.map AV.dis)) .yes))
  |false=>.fail
def kop (f:FuncId) (o:Oper) (kn:Nat) (s:St) (k0:Nat→St→KT) (kp:AV→St→KT):KT:=
 let k:=fun kn s'=>k0 (kupd kn o s') s'
 let dflt:=kkap P cfg f o s (k kn) kp
 match o.op with
 | .pick (.tmp t) _ _=>match kn.testBit t with
  |true=>dflt
  |false=>match s.tmps[t]? with
   |some (.val (.bool b))=>.branch b (kkap P cfg f o (u1c s t true) (k (kn|||2^t)) kp) (kkap P cfg f o (u1c s t false) (k (kn|||2^t)) kp)
   |_=>dflt
 | .indexAddr ty x i=>match vals s.tmps [x,i] [] with
  |[.slice sz rows own,.val (.int _ i)]=>match P.underlying ty with
   |some (.slice e)=>match decide (size? P e=some sz) with
    |true=>r1l (rs e) fun cells=>.row rows i cells (k kn (kput cfg f o s (.ref cells)))
    |false=>.fail
   |_=>dflt
  |_=>dflt
 | .index ty x i=>match vals s.tmps [x,i] [] with
  |[.val (.string b),.val (.int _ i)]=>match P.underlying ty with
   |some .string=>.exY fun y=>.byte b i y (k kn (kput cfg f o s (.val (.int .u8 y.toNat))))
   |_=>dflt
  |_=>dflt
 | .convert src dst x=>match vals s.tmps [x] [] with
  |[.slice _ rows _]=>match P.underlying src,P.underlying dst with
   |some (.slice e),some .string=>match P.underlying e with
    |some (.int .u8)=>.exS fun y=>.bytes rows y (k kn (kput cfg f o s (.val (.string y))))
    |_=>dflt
   |_,_=>dflt
  |_=>dflt
 | .buildSlice _ _ _=>match j1P P o (vals s.tmps o.op.operands.toList (b1v cfg f o)),decide (a1q o.op.operands.toList (b1v cfg f o)).Nodup with
  |some (.slice sz rows own),true=>x1u rows fun rows=>k kn (kput cfg f o s (.slice sz rows own))
  |_,_=>dflt
 | .slice t _ l h m=>match vals s.tmps o.op.operands.toList (b1v cfg f o),m with
  |x::r,none=>match (x::r).any AV.isLp with
   |false=>b2r P t x (match l with|some _=>r.head? |none=>none) (match h with|some _=>(match l with|some _=>r.tail|none=>r).head? |none=>none) fun v=>k kn (kput cfg f o s v)
   |true=>.fail
  |_,_=>dflt
 | .binOp .neq t x y _=>match vals s.tmps [x,y] [] with
  |[.agg a,.agg b]=>.exB fun r=>.prop (abin P .neq t x y (.agg a) (.agg b)=some (.val (.bool r))) (k kn (kput cfg f o s (.val (.bool r))))
  |_=>dflt
 | .binOp .eql t x y _=>match vals s.tmps [x,y] [] with
  |[.agg a,.agg b]=>.exB fun r=>.prop (abin P .eql t x y (.agg a) (.agg b)=some (.val (.bool r))) (k kn (kput cfg f o s (.val (.bool r))))
  |_=>dflt
 | .binOp .add t x y _=>match vals s.tmps [x,y] [] with
  |[.val (.string a),.val (.string b)]=>.need (decide (¬((a.size+b.size:Nat):Int)>IntKind.i64.max)) (k kn (kput cfg f o s (.val (.string (a++b)))))
  |_=>dflt
 | .call c=>match c.callee with
  | .value _=>match decide (a1q o.op.operands.toList (b1v cfg f o)).Nodup with
   |true=>match vals s.tmps o.op.operands.toList (b1v cfg f o) with
    | .func (.func g) first captured::args=>match (first.map AV.dis++args++captured.map AV.dis).any AV.isLp with
     |true=>.fail
     |false=>kc g (first.map AV.dis++args++captured.map AV.dis) (e2r kn first.length c.args.toList) .none s.g.H fun r known=>
      match r.out with
      | .ret v=>k0 (kset kn known o.dst) {s with tmps:=putT (disT s.tmps o.op.operands.toList (b1v cfg f o)) o.dst v,g:={s.g with H:=r.H}}
      | .panic v=>kp v {s with tmps:=disT s.tmps o.op.operands.toList (b1v cfg f o),g:={s.g with H:=r.H}}
    |_=>.fail
   |false=>.fail
  | .builtin .append=>match c.argTypes[0]?,c.argTypes[1]? with
   |some st,some xt=>match P.underlying st,P.underlying xt with
    |some (.slice e),some xd=>match xd with
     | .int _=>dflt
     |_=>match vals s.tmps o.op.operands.toList (b1v cfg f o) with
      |[.slice sz rows own,b]=>match f1s b,P.info? e,decide (a1q o.op.operands.toList (b1v cfg f o)).Nodup with
       |some (sz',new),some _,true=>match b with
        | .slice _ _ .full=>match new with
         |[]=>k kn (kput cfg f o s (.slice sz rows own))
         |_::_=>b2s P e sz rows own sz' new fun v=>k kn (kput cfg f o s v)
        |_=>.branch new.isEmpty (k kn (kput cfg f o s (.slice sz rows own))) (b2s P e sz rows own sz' new fun v=>k kn (kput cfg f o s v))
       |_,_,_=>dflt
      |_=>dflt
    |_,_=>dflt
   |_,_=>dflt
  |_=>dflt
 |_=>dflt
def kops (f:FuncId) (dsts:List (Option Tmp)):List Oper→Nat→List (Option Cls)→St→(AX→List (Option Cls)→Nat→St→KT)→KT
 |[],kn,acc,s,k=>k .normal acc kn s
 |o::r,kn,acc,s,k=>b2q dsts o kn s fun w kn s=>
  match w with
  |true=>kop P cfg rs kc f o kn s (fun kn' s'=>kops f dsts r kn' (some (acls cfg f o (vals s.tmps o.op.operands.toList (b1v cfg f o)))::acc) s' k) (fun v s'=>k (.panic v) (some (acls cfg f o (vals s.tmps o.op.operands.toList (b1v cfg f o)))::acc) 0 s')
  |false=>kops f dsts r (kclr kn o.dst) (none::acc) {s with tmps:=putT s.tmps o.dst (.val undef)} k
mutual
def m1E (n:Nat):AV→KT→KT
 | .any,k=>k
 | .val _,k=>k
 | .lp _ _ _,k=>k
 | .slice _ rows _,k=>.need (lowss n rows) k
 | .ref cs,k=>m1F n cs k
 | .ptr id _,k=>match Nat.blt id n with
  |true=>k
  |false=>.fail
 | .func _ a b,k=>m1F n a (m1F n b k)
 | .iface _ v,k=>m1E n v k
 | .agg cs,k=>m1F n cs k
 | .tuple cs,k=>m1F n cs k
def m1F (n:Nat):List AV→KT→KT
 |[],k=>k
 |v::l,k=>m1E n v (m1F n l k)
end
def u1d (n:Nat):List (Option LCell)→KT→KT
 |[],k=>k
 |none::l,k=>u1d n l k
 |some (_,cs)::l,k=>m1F n cs (u1d n l k)
def e2s (n:Nat):List ADef→KT→KT
 |[],k=>k
 |d::l,k=>m1F n d.args (e2s n l k)
def g2d (n:Nat) (m:RM) (k:KT):KT:=
 match m with
 | .panicking v _=>m1E n v k
 |_=>k
def y1H (n:Nat):Heap→KT→KT
 |[],k=>k
 |cs::l,k=>m1F n cs (y1H n l k)
def b2t (n:Nat) (s:St) (k:KT):KT:=m1F n s.tmps (u1d n s.lh (e2s n s.g.defers (g2d n s.g.rm (y1H n (s.g.H.take n) k))))
def b2u (live:Option Nat) (s:St) (k:St→KT):KT:=
 match live with
 |none=>k s
 |some m=>match (b1K m 0 s.tmps).all (lpIn m) with
  |true=>match m.testBit g2b with
   |true=>b2t s.g.base {s with tmps:=b1K m 0 s.tmps,lh:=e1a m 0 s.lh}
     (k {s with tmps:=b1K m 0 s.tmps,lh:=e1a m 0 s.lh,g:={s.g with H:=s.g.H.take s.g.base}})
   |false=>k {s with tmps:=b1K m 0 s.tmps,lh:=e1a m 0 s.lh}
  |false=>.fail
def i2y (n:Nat) (o:Out) (k:KT):KT:=
 match o with
 | .ret v=>m1E n v k
 | .panic v=>m1E n v k
def b2v (f:FuncId) (o:Oper) (kn:Nat) (s:St) (k0:Nat→St→KT) (kp:AV→St→KT):KT:=
 match decide (a1q o.op.operands.toList (b1v cfg f o)).Nodup&&o.guard.isNone with
 |false=>.fail
 |true=>match o.op with
  | .call c=>match c.callee,vals s.tmps o.op.operands.toList (b1v cfg f o) with
   | .value _,.func (.func g) first captured::args=>match lpOf args with
    |none=>.fail
    |some (t,gen)=>match s.lh[t]? with
     |some (some (gen',cs))=>match decide (gen=gen') with
      |false=>.fail
      |true=>match (g1g t gen s.g.H.length first args captured).any AV.isLp with
       |true=>.fail
       |false=>kc g (g1g t gen s.g.H.length first args captured) (e2r kn first.length c.args.toList) .none (s.g.H++[cs]) fun r known=>
        match r.H.drop s.g.H.length with
        |[cs']=>i2y s.g.H.length r.out (m1F s.g.H.length cs' (y1H s.g.H.length (r.H.take s.g.H.length) (match r.out with
         | .ret v=>k0 (kset kn known o.dst) {tmps:=putT (disT s.tmps o.op.operands.toList (b1v cfg f o)) o.dst v,lh:=s.lh.set t (some (gen,cs')),g:={s.g with H:=r.H.take s.g.H.length}}
         | .panic v=>kp v {tmps:=disT s.tmps o.op.operands.toList (b1v cfg f o),lh:=s.lh.set t (some (gen,cs')),g:={s.g with H:=r.H.take s.g.H.length}})))
        |_=>.fail
     |_=>.fail
   |_,_=>.fail
  |_=>.fail
def i1c (f:FuncId):(b:Nat)→Code→Nat→St→(AX→Nat→St→KT)→KT
 |_,.skip,kn,s,k=>k .normal kn s
 |_,.region id ops false,kn,s,k=>match d1H (cfg f).live (2000000+id) with
  |none=>kops P cfg rs kc f (ops.toList.map (·.dst)) ops.toList kn [] s fun x _ kn s=>k x kn s
  |some _=>kops P cfg rs kc f (ops.toList.map (·.dst)) (ops.toList.take (ops.size-1)) kn [] s fun x _ kn s=>match x with
   | .normal=>match ops[ops.size-1]? with
    |some o=>b2v cfg kc f o kn s (fun kn s=>k .normal kn s) fun v s=>k (.panic v) 0 s
    |none=>.fail
   | .exit id=>k (.exit id) kn s
   | .ret=>k .ret kn s
   | .panic v=>k (.panic v) kn s
 |_,.region _ ops true,kn,s,k=>kops P cfg rs kc f (ops.toList.map (·.dst)) ops.toList kn [] s fun x acc kn s=>
  match x with
  | .normal=>match t1M cfg f (ops.toList.map (·.dst)) ops.toList acc.reverse 0 [] [] with
   |true=>k .normal kn s
   |false=>.fail
  | .panic v=>match r1d P cfg f ops (ops.toList.map (·.dst)) v ops.toList acc.reverse 0 [] [] s with
   |some (v2,s2)=>k (.panic v2) 0 (g1Y s2)
   |none=>.fail
  |_=>.fail
 |b,.seq x y,kn,s,k=>match (d1H (cfg f).live (k1Q y)).isSome with
  |true=>.stage (i1c f b x kn s fun r kn s=>match r with
   | .normal=>b2u (d1H (cfg f).live (k1Q y)) s .done
   | .exit id=>.out (k (.exit id) kn s)
   | .ret=>.out (k .ret kn s)
   | .panic v=>.out (k (.panic v) kn s)) fun s=>i1c f b y 0 s k
  |false=>i1c f b x kn s fun r kn s=>match r with
   | .normal=>i1c f b y kn s k
   | .exit id=>k (.exit id) kn s
   | .ret=>k .ret kn s
   | .panic v=>k (.panic v) kn s
 |b,.cond (.tmp t) x y,kn,s,k=>match s.tmps[t]? with
  |some (.val (.bool v))=>match kn.testBit t with
   |true=>match v with
    |true=>i1c f b x kn s k
    |false=>i1c f b y kn s k
   |false=>.branch v (i1c f b x (kn|||2^t) (u1c s t true) k) (i1c f b y (kn|||2^t) (u1c s t false) k)
  |_=>.fail
 |_,.block id x,kn,s,k=>i1c f id x kn s fun r kn s=>match r with
  | .exit i=>match decide (i=id) with
   |true=>k .normal kn s
   |false=>k (.exit i) kn s
  | .normal=>k .normal kn s
  | .ret=>k .ret kn s
  | .panic v=>k (.panic v) kn s
 |_,.exit id,kn,s,k=>k (.exit id) kn s
 |b,.scope x,kn,s,k=>i1c f b x kn s k
 |_,.label _,kn,s,k=>k .normal kn s
 |_,.ret,kn,s,k=>k .ret kn s
 |b,.loop x,_,s,k=>b2u (d1H (cfg f).live b) s fun s0=>.loop f b x s0 fun r s'=>k r 0 s'
 |_,_,_,_,_=>.fail
def p1g:List ADef→RM→Heap→(RM→Heap→KT)→KT
 |[],m,H,k=>k m H
 |d::r,m,H,k=>kc d.f d.args 0 m H fun res _=>match res.out with
  | .ret _=>p1g r (m1t res.rm) res.H k
  | .panic v=>p1g r (.panicking v false) res.H k
def e2t (fn:Func) (s:St) (rm m:RM) (k:CRes→KT):KT:=
 match m with
 | .returning=>match c1X P s s.g.H fn.results.toList with
  |some l=>k ⟨.ret (e1T l),rm,s.g.H⟩
  |none=>.fail
 | .panicking v false=>k ⟨.panic v,rm,s.g.H⟩
 |_=>.fail
def kfin (fn:Func) (s:St) (m:RM) (k:CRes→KT):KT:=
 match s.g.rm with
 | .none=>p1g kc s.g.defers m s.g.H fun m H=>match m with
  | .returning=>match c1X P s H fn.results.toList with
   |some l=>k ⟨.ret (e1T l),.none,H⟩
   |none=>.fail
  | .panicking v false=>k ⟨.panic v,.none,H⟩
  |_=>.fail
 | .returning=>match s.g.defers with
  |[]=>e2t P fn s .returning m k
  |_=>.fail
 | .panicking v b=>match s.g.defers with
  |[]=>e2t P fn s (.panicking v b) m k
  |_=>.fail
def i2z (fn:Func) (x:AX) (s:St) (k:CRes→KT):KT:=
 match x with
 | .normal=>kfin P kc fn s .returning k
 | .ret=>kfin P kc fn s .returning k
 | .panic v=>kfin P kc fn s (.panicking v false) k
 | .exit _=>.fail
def g2e (fn:Func) (args:List AV) (rm:RM) (H:Heap):St:=⟨args++List.replicate (fn.ntmps-args.length) (.val undef),List.replicate fn.ntmps none,⟨H,[],rm,H.length⟩⟩
def kcut (cut:Option Bool) (rm:RM) (n:Nat) (r:CRes) (k:CRes→KT):KT:=
 match rm with
 | .none=>match cut with
  |some true=>m1E n (match r.out with| .ret v=>v| .panic v=>v) (y1H n (r.H.take n) (k ⟨r.out,r.rm,r.H.take n⟩))
  |some false=>.need (Nat.ble r.H.length n) (k r)
  |none=>.need (Nat.ble r.H.length n|| !r.out.low n) (k r)
 |_=>k r
def u1e (fn:Func) (kn:Nat):Bool:=
 match fn.results.toList with
 |[.tmp t]=>kn.testBit t
 |_=>false
def kfun (cut:Option Bool) (f:FuncId) (args:List AV) (kn:Nat) (rm:RM) (H:Heap) (k:CRes→Bool→KT):KT:=
 match (cfg f).ext with
 |true=>.fail
 |false=>match P.funcs[f]? with
 |none=>.fail
 |some fn=>match fn.body with
  |none=>.fail
  |some c=>i1c P cfg rs kc f 0 c kn (g2e fn args rm H) fun x kn s=>i2z P kc fn x s fun r=>kcut cut rm H.length r fun r=>k (f1v P (cfg f).norm fn.resultTypes.toList r) (u1e fn kn)
end
section
variable (P:Program) (cfg:FuncId→FCfg) (rs:TypeId→List KSh) (sh:FuncId→KM)
def k1a:Nat→KC
 |0=>fun g args _ rm H k=>match sh g with
  | .inl _=>.fail
  | .keep=>.fail
  | .con ret pan heap=>kask ret pan heap g args rm H fun r=>k r false
 |n+1=>fun g args kn rm H k=>match sh g with
  | .inl cut=>kfun P cfg rs (k1a n) (some cut) g args kn rm H k
  | .keep=>kfun P cfg rs (k1a n) none g args kn rm H k
  | .con ret pan heap=>kask ret pan heap g args rm H fun r=>k r false
def u1f (n:Nat) (cut:Bool) (f:FuncId) (args:List AV) (rm:RM) (H:Heap):KT:=kfun P cfg rs (k1a P cfg rs sh n) (some cut) f args 0 rm H fun r _=>.ret r
end
section
variable {P:Program} {cfg:FuncId→FCfg} {rs:TypeId→List KSh} {call:CallF} {QD:List (St→Prop)} {QR:CRes→Prop}
def KCS (P:Program) (cfg:FuncId→FCfg) (call:CallF) (QD:List (St→Prop)) (QR:CRes→Prop) (kc:KC):Prop:=
 ∀g args kn rm H k,(kc g args kn rm H k).wp P cfg call QD QR→∃r known,call g args rm H=some r∧(k r known).wp P cfg call QD QR
theorem k1t {s:St} {t:Tmp} {b:Bool} (h:s.tmps[t]? =some (.val (.bool b))):u1c s t b=s:=by
 unfold u1c
 have:s.tmps.set t (.val (.bool b))=s.tmps:=by
  apply List.ext_getElem?
  intro i
  rw[List.getElem?_set]
  split
  ·rename_i e;subst e
   split
   ·exact h.symm
   ·rename_i hl
    rw[List.getElem?_eq_none (by omega)] at h;cases h
  ·rfl
 rw[this]
theorem i1v {b:Bool} {t f:KT} (h:(KT.branch b t f).wp P cfg call QD QR):(b=true∧t.wp P cfg call QD QR)∨(b=false∧f.wp P cfg call QD QR):=by
 cases b
 ·exact .inr ⟨rfl,h.2 rfl⟩
 ·exact .inl ⟨rfl,h.1 rfl⟩
mutual
theorem f1W:∀{c:KSh} {k:AV→KT},(l1S c k).wp P cfg call QD QR→∃v,(k v).wp P cfg call QD QR
 | .any,_,h=>h
 | .bool,_,h=>by obtain⟨b,h⟩:=h;exact⟨_,h⟩
 | .int _,_,h=>by obtain⟨b,h⟩:=h;exact⟨_,h⟩
 | .str,_,h=>by obtain⟨b,h⟩:=h;exact⟨_,h⟩
 | .slice _ _,_,h=>by obtain⟨b,h⟩:=h;exact⟨_,h⟩
 | .ref l,_,h=>by
  rw[l1S] at h
  obtain⟨cs,h⟩:=i1d h
  exact⟨_,h⟩
 | .agg l,_,h=>by
  rw[l1S] at h
  obtain⟨cs,h⟩:=i1d h
  exact⟨_,h⟩
 | .const _,_,h=>⟨_,h⟩
 | .alt a b,_,h=>by
  rw[l1S] at h
  rcases h with h|h
  ·exact f1W h
  ·exact f1W h
theorem i1d:∀{l:List KSh} {k:List AV→KT},(l1S.go l k).wp P cfg call QD QR→∃v,(k v).wp P cfg call QD QR
 |[],_,h=>by rw[l1S.go] at h;exact⟨_,h⟩
 |c::r,_,h=>by
  rw[l1S.go] at h
  obtain⟨v,h⟩:=f1W h
  obtain⟨l,h⟩:=i1d h
  exact⟨_,h⟩
end
theorem g1q:∀{l:List KSh} {k:List AV→KT},(r1l l k).wp P cfg call QD QR→∃v,(k v).wp P cfg call QD QR
 |[],_,h=>⟨_,h⟩
 |c::r,_,h=>by
  obtain⟨v,h⟩:=f1W h
  obtain⟨l,h⟩:=g1q h
  exact⟨_,h⟩
theorem y1I {args:List AV} {s:KRs} {k:AV→KT} (h:(kres args s k).wp P cfg call QD QR):∃v,(k v).wp P cfg call QD QR:=by
 cases s with
 |one c=>exact f1W h
 |tup l=>obtain⟨v,h⟩:=g1q h;exact⟨_,h⟩
 |agg l=>obtain⟨v,h⟩:=g1q h;exact⟨_,h⟩
 |arg i=>exact⟨_,h⟩
theorem p1h:∀{H:Heap} {k:Heap→KT},(kheap H k).wp P cfg call QD QR→∃H',(k H').wp P cfg call QD QR
 |[],_,h=>⟨_,h⟩
 |b::r,_,h=>by
  obtain⟨v,h⟩:=g1q h
  obtain⟨l,h⟩:=p1h h
  exact⟨_,h⟩
theorem kheap?_sound {b:Bool} {H:Heap} {k:Heap→KT} (h:(kheap? b H k).wp P cfg call QD QR):∃H',(k H').wp P cfg call QD QR:=by
 cases b with
 |true=>exact p1h h
 |false=>exact⟨_,h⟩
theorem r1m {ret:Option KRs} {pan:Option (TypeId×KSh)} {heap:Bool} {g:FuncId} {args:List AV} {rm:RM} {H:Heap} {k:CRes→KT} (h:(kask ret pan heap g args rm H k).wp P cfg call QD QR):
  ∃r,call g args rm H=some r∧(k r).wp P cfg call QD QR:=by
 have hr:∀s,(kres args s fun v=>kheap? heap H fun H'=>.call g args rm H ⟨.ret v,.none,H'⟩ (k ⟨.ret v,.none,H'⟩)).wp P cfg call QD QR→∃r,call g args rm H=some r∧(k r).wp P cfg call QD QR:=by
  intro s h
  obtain⟨v,h⟩:=y1I h
  obtain⟨H',h⟩:=kheap?_sound h
  exact⟨_,h.1,h.2⟩
 have hp:∀p:TypeId×KSh,(l1S p.2 fun v=>kheap? heap H fun H'=>.call g args rm H ⟨.panic (.iface p.1 v),.none,H'⟩ (k ⟨.panic (.iface p.1 v),.none,H'⟩)).wp P cfg call QD QR→∃r,call g args rm H=some r∧(k r).wp P cfg call QD QR:=by
  intro p h
  obtain⟨v,h⟩:=f1W h
  obtain⟨H',h⟩:=kheap?_sound h
  exact⟨_,h.1,h.2⟩
 unfold kask at h
 cases ret with
 |none=>cases pan with
  |none=>exact h.elim
  |some q=>exact hp q h
 |some s=>cases pan with
  |none=>exact hr s h
  |some q=>
   rcases h with h|h
   ·exact hr s h
   ·exact hp q h
variable {kc:KC} {f:FuncId}
theorem u1g {dsts:List (Option Tmp)} {o:Oper} {kn:Nat} {s:St} {k:Bool→Nat→St→KT} (h:(b2q dsts o kn s k).wp P cfg call QD QR):
  ∃w kn',o1R dsts o s.tmps=some w∧(k w kn' s).wp P cfg call QD QR:=by
 unfold b2q at h
 unfold o1R
 split at h
 ·rename_i e;(try simp only[e]);exact⟨_,_,rfl,h⟩
 ·rename_i j want e
  (try simp only[e])
  simp only[gval]
  split at h
  ·rename_i e2;(try simp only[e2]);exact⟨_,_,rfl,h⟩
  ·rename_i t e2
   (try simp only[e2])
   split at h
   ·rename_i e3;(try simp only[e3]);exact⟨_,_,rfl,h⟩
   ·rename_i b e3
    (try simp only[e3])
    split at h
    ·cases b<;>exact⟨_,_,rfl,h⟩
    ·rcases i1v h with ⟨rfl,h'⟩|⟨rfl,h'⟩
     ·rw[k1t e3] at h';exact⟨_,_,rfl,h'⟩
     ·rw[k1t e3] at h';exact⟨_,_,rfl,h'⟩
   ·rename_i v hv e3
    (try simp only[e3])
    exact⟨false,_,rfl,h⟩
   ·exact h.elim
theorem y1J {o:Oper} {s:St} {k:St→KT} {kp:AV→St→KT} (h:(kkap P cfg f o s k kp).wp P cfg call QD QR):
  (∃s',aop P cfg call f o s=some (.next s')∧(k s').wp P cfg call QD QR)∨∃v s',aop P cfg call f o s=some (.panic v s')∧(kp v s').wp P cfg call QD QR:=by
 unfold kkap at h
 split at h
 ·rename_i e;exact .inl ⟨_,r1R b2d e,h⟩
 ·rename_i e;exact .inr ⟨_,_,r1R b2d e,h⟩
 ·exact h.elim
theorem s1b {o:Oper} {s:St} {v:AV} (hn:(a1q o.op.operands.toList (b1v cfg f o)).Nodup) (hcl:acls cfg f o (vals s.tmps o.op.operands.toList (b1v cfg f o))=.pure)
  (hp:j1P P o (vals s.tmps o.op.operands.toList (b1v cfg f o))=some v):aop P cfg call f o s=some (.next (kput cfg f o s v)):=by
 unfold aop kput
 simp only[if_pos hn,hcl,hp]
theorem l1T {x:Option AV} {d:Int} {l:Int} {dn m:Nat} (h:kbd x d=some l) (hd:x=none→d=dn) (h0:0≤l) (hm:l≤m):bound? x dn m=some l.toNat:=by
 cases x with
 |none=>
  simp only[kbd,Option.some.injEq] at h
  have:=hd rfl
  simp only[bound?,Option.some.injEq];omega
 |some a=>
  cases a with
  |val v=>cases v with
   |int k i=>
    simp only[kbd,Option.some.injEq] at h;subst h
    simp only[bound?,h0,hm,and_self,if_true]
   |_=>simp [kbd] at h
  |_=>simp [kbd] at h
theorem u1h {t:TypeId} {a:AV} {lo hi:Option AV} {k:AV→KT} (h:(b2r P t a lo hi k).wp P cfg call QD QR):∃v,k1I P t a lo hi none=some v∧(k v).wp P cfg call QD QR:=by
 unfold b2r at h
 split at h
 ·rename_i s hu
  split at h
  ·rename_i l hh hl hhi
   obtain⟨h1,h2⟩:=h
   obtain⟨a1,a2,a3⟩:=of_decide_eq_true h1
   have e1:bound? hi s.size s.size=some hh.toNat:=l1T hhi (fun _=>rfl) (by omega) (by omega)
   have e2:bound? lo 0 hh.toNat=some l.toNat:=l1T hl (fun _=>rfl) a1 (by omega)
   refine⟨_,?_,h2⟩
   simp only[k1I,hu,e1,e2]
  ·exact h.elim
 ·rename_i e sz rows own hu
  split at h
  ·rename_i n l hh hn hl hhi
   obtain⟨h1,h2⟩:=h
   obtain⟨a0,a1,a2,a3⟩:=of_decide_eq_true h1
   have e1:bound? hi rows.length rows.length=some hh.toNat:=l1T hhi (fun _=>rfl) (by omega) (by omega)
   have e2:bound? lo 0 hh.toNat=some l.toNat:=l1T hl (fun _=>rfl) a1 (by omega)
   have key:k1I P t (.slice sz rows own) lo hi none=some (.slice sz ((rows.drop l.toNat).take (hh.toNat-l.toNat)) (if hh.toNat=rows.length∧own=.full then .full else .no)):=by
    simp only[k1I,hu,hn,a0,if_true,e1,e2]
   rw[key]
   cases hi with
   |none=>
    simp only[kbd,Option.some.injEq] at hhi
    have hx:hh.toNat=rows.length:=by omega
    have ht:(rows.drop l.toNat).take (hh.toNat-l.toNat)=rows.drop l.toNat:=List.take_of_length_le (by simp only[List.length_drop];omega)
    rw[ht]
    cases own with
    |full=>simp only[hx,and_self,if_true];exact⟨_,rfl,h2⟩
    |no=>simp only[reduceCtorEq,and_false,if_false];exact⟨_,rfl,h2⟩
    |yes=>simp only[reduceCtorEq,and_false,if_false];exact⟨_,rfl,h2⟩
   |some x=>
    cases own with
    |full=>
     rcases i1v h2 with ⟨e,h2⟩|⟨e,h2⟩
     ·have e:=of_decide_eq_true e
      have hx:hh.toNat=rows.length:=by omega
      rw[if_pos ⟨hx,rfl⟩]
      exact⟨_,rfl,h2⟩
     ·have e:=of_decide_eq_false e
      have hx:¬hh.toNat=rows.length:=by omega
      simp only[hx,false_and,if_false];exact⟨_,rfl,h2⟩
    |no=>simp only[reduceCtorEq,and_false,if_false];exact⟨_,rfl,h2⟩
    |yes=>simp only[reduceCtorEq,and_false,if_false];exact⟨_,rfl,h2⟩
  ·exact h.elim
 ·exact h.elim
theorem r1n:∀(l:List AV) (k:List AV→KT),s1a l k=k l
 |[],k=>rfl
 |c::l,k=>by rw[s1a,r1n]
theorem u1i:∀(l:List (List AV)) (k:List (List AV)→KT),x1u l k=k l
 |[],k=>rfl
 |r::l,k=>by rw[x1u,r1n,u1i]
theorem v1Q {e:TypeId} {sz:Nat} {rows:List (List AV)} {own:Own} {sz':Nat} {new:List (List AV)} {k:AV→KT} {X:Option AV} (hne:new≠[])
  (hX:∀ii v,P.info? e=some ii→(if (sz=ii.size∨(rows=[]∧own=.full))∧sz'=ii.size∧own≠ .no∧rows.length+new.length≤2147483648∧ii.bytes≤4096∧ii.zero.map (·.cells.size)=some ii.size then
      some (AV.slice ii.size (rows++new.map (·.map AV.dis)) .yes) else none)=some v→X=some v)
  (h:(b2s P e sz rows own sz' new k).wp P cfg call QD QR):∃v,X=some v∧(k v).wp P cfg call QD QR:=by
 unfold b2s at h
 split at h
 ·exact h.elim
 ·rename_i ii hi
  split at h
  ·rename_i hd
   have hd:=of_decide_eq_true hd
   split at h
   ·exact h.elim
   ·split at h
    ·rename_i he
     refine⟨_,hX ii _ hi ?_,h.2⟩
     rw[if_pos ⟨.inl (of_decide_eq_true he),hd.1,by simp,Nat.le_of_ble_eq_true h.1,hd.2.1,hd.2.2⟩]
    ·exact h.elim
   ·split at h
    ·rename_i he
     refine⟨_,hX ii _ hi ?_,h.2⟩
     rw[if_pos ⟨.inl (of_decide_eq_true he),hd.1,by simp,Nat.le_of_ble_eq_true h.1,hd.2.1,hd.2.2⟩]
    ·obtain⟨h1,h2⟩:=h
     simp only[Bool.and_eq_true,List.isEmpty_iff] at h1
     refine⟨_,hX ii _ hi ?_,h2⟩
     rw[if_pos ⟨.inr ⟨h1.1,rfl⟩,hd.1,by simp,by rw[h1.1];simpa using Nat.le_of_ble_eq_true h1.2,hd.2.1,hd.2.2⟩,h1.1];rfl
  ·exact h.elim
theorem b2w (hkc:KCS P cfg call QD QR kc) {o:Oper} {kn:Nat} {s:St} {k:Nat→St→KT} {kp:AV→St→KT} (h:(kop P cfg rs kc f o kn s k kp).wp P cfg call QD QR):
  (∃s' kn',aop P cfg call f o s=some (.next s')∧(k kn' s').wp P cfg call QD QR)∨∃v s',aop P cfg call f o s=some (.panic v s')∧(kp v s').wp P cfg call QD QR:=by
 have dflt:∀{kn'},(kkap P cfg f o s (fun s'=>k (kupd kn' o s') s') kp).wp P cfg call QD QR→(∃s' kn',aop P cfg call f o s=some (.next s')∧(k kn' s').wp P cfg call QD QR)∨∃v s',aop P cfg call f o s=some (.panic v s')∧(kp v s').wp P cfg call QD QR:=by
  intro kn' h
  rcases y1J h with ⟨s',h1,h2⟩|h
  ·exact .inl ⟨s',_,h1,h2⟩
  ·exact .inr h
 unfold kop at h
 simp only at h
 split at h
 ·split at h
  ·exact dflt h
  ·split at h
   ·rename_i e3
    rcases i1v h with ⟨rfl,h'⟩|⟨rfl,h'⟩
    ·rw[k1t e3] at h';exact dflt h'
    ·rw[k1t e3] at h';exact dflt h'
   ·exact dflt h
 ·rename_i ty x i eo
  split at h
  ·rename_i sz rows own kd ix ev1
   split at h
   ·rename_i e eu
    split at h
    ·rename_i hs
     obtain⟨cells,⟨h0,h1⟩,h2⟩:=g1q h
     refine .inl ⟨_,_,?_,h2⟩
     have hs:=of_decide_eq_true hs
     have hm:b1v cfg f o=[]:=by unfold b1v;rw[eo]
     have ho:o.op.operands.toList=[x,i]:=by rw[eo];rfl
     have hmv:a1q [x,i] []=[]:=by cases x<;>rfl
     refine s1b (by rw[hm,ho,hmv];exact List.nodup_nil) (by unfold acls;rw[eo]) ?_
     rw[hm,ho,ev1]
     unfold j1P;rw[eo];simp only[f1Q,eu,h0,if_true,h1,hs]
    ·exact h.elim
   ·exact dflt h
  ·exact dflt h
 ·rename_i ty x i eo
  split at h
  ·rename_i b kd ix ev1
   split at h
   ·rename_i eu
    obtain⟨y,⟨h0,h1⟩,h2⟩:=h
    refine .inl ⟨_,_,?_,h2⟩
    have hm:b1v cfg f o=[]:=by unfold b1v;rw[eo]
    have ho:o.op.operands.toList=[x,i]:=by rw[eo];rfl
    have hmv:a1q [x,i] []=[]:=by cases x<;>rfl
    refine s1b (by rw[hm,ho,hmv];exact List.nodup_nil) (by unfold acls;rw[eo]) ?_
    rw[hm,ho,ev1]
    unfold j1P;rw[eo];simp only[l1x,eu,h0,if_true,h1,Option.map_some]
   ·exact dflt h
  ·exact dflt h
 ·rename_i src dst x eo
  split at h
  ·rename_i sz rows own ev1
   split at h
   ·rename_i e eu ed
    split at h
    ·rename_i eb
     obtain⟨y,h1,h2⟩:=h
     refine .inl ⟨_,_,?_,h2⟩
     have hm:b1v cfg f o=[]:=by unfold b1v;rw[eo]
     have ho:o.op.operands.toList=[x]:=by rw[eo];rfl
     have hmv:a1q [x] []=[]:=by cases x<;>rfl
     refine s1b (by rw[hm,ho,hmv];exact List.nodup_nil) (by unfold acls;rw[eo]) ?_
     rw[hm,ho,ev1]
     unfold j1P;rw[eo];simp only[g1d,eu,ed,eb,h1]
    ·exact dflt h
   ·exact dflt h
  ·exact dflt h
 ·rename_i t n ps eo
  split at h
  ·rename_i sz rows own ev1 hn
   have hn:=of_decide_eq_true hn
   rw[u1i] at h
   exact .inl ⟨_,_,s1b hn (by unfold acls;rw[eo]) ev1,h⟩
  ·exact dflt h
 ·rename_i t x0 l hh m eo
  split at h
  ·rename_i x r ev1
   split at h
   ·rename_i hlp
    obtain⟨v,h1,h2⟩:=u1h h
    refine .inl ⟨_,_,?_,h2⟩
    have hm:b1v cfg f o=[]:=by unfold b1v;rw[eo]
    have hmv:∀l:List Operand,a1q l []=[]:=by intro l;cases l with
     |nil=>rfl
     |cons a l=>cases a<;>rfl
    refine s1b (by rw[hm,hmv];exact List.nodup_nil) (by unfold acls;rw[eo]) ?_
    rw[ev1]
    have hlen:(vals s.tmps o.op.operands.toList (b1v cfg f o)).length=o.op.operands.toList.length:=by
     have:∀(xs:List Operand) (ms:List Bool),(vals s.tmps xs ms).length=xs.length:=by
      intro xs
      induction xs with
      |nil=>intro ms;cases ms<;>rfl
      |cons a xs ih=>intro ms;cases ms<;>simp [vals,ih]
     exact this _ _
    rw[ev1,eo] at hlen
    unfold j1P;rw[eo]
    cases l with
    |none=>cases hh with
     |none=>simp only[Option.isSome_none,Bool.false_eq_true,if_false,hlp,and_self,if_true];exact h1
     |some hx=>
      simp only[Option.isSome_none,Option.isSome_some,Bool.false_eq_true,if_false,if_true,hlp] at h1⊢
      cases r with
      |nil=>simp [Op.operands] at hlen
      |cons a r=>simp only[List.head?_cons,Option.isSome_some,and_self,if_true];exact h1
    |some lx=>cases r with
     |nil=>cases hh<;>simp [Op.operands] at hlen
     |cons a r=>cases hh with
      |none=>
       simp only[Option.isSome_none,Option.isSome_some,Bool.false_eq_true,if_false,if_true,hlp,List.head?_cons,List.tail_cons,and_self] at h1⊢
       exact h1
      |some hx=>
       simp only[Option.isSome_none,Option.isSome_some,Bool.false_eq_true,if_false,if_true,hlp,List.head?_cons,List.tail_cons] at h1⊢
       cases r with
       |nil=>simp [Op.operands] at hlen
       |cons b r=>simp only[List.head?_cons,Option.isSome_some,and_self,if_true];exact h1
   ·exact h.elim
  ·exact dflt h
 ·rename_i t x y r0 eo
  split at h
  ·rename_i a b ev1
   obtain⟨r,h1,h2⟩:=h
   refine .inl ⟨_,_,?_,h2⟩
   have hm:b1v cfg f o=[]:=by unfold b1v;rw[eo]
   have ho:o.op.operands.toList=[x,y]:=by rw[eo];rfl
   have hmv:a1q [x,y] []=[]:=by cases x<;>rfl
   refine s1b (by rw[hm,ho,hmv];exact List.nodup_nil) (by unfold acls;rw[eo]) ?_
   rw[hm,ho,ev1]
   unfold j1P;rw[eo]
   exact h1
  ·exact dflt h
 ·rename_i t x y r0 eo
  split at h
  ·rename_i a b ev1
   obtain⟨r,h1,h2⟩:=h
   refine .inl ⟨_,_,?_,h2⟩
   have hm:b1v cfg f o=[]:=by unfold b1v;rw[eo]
   have ho:o.op.operands.toList=[x,y]:=by rw[eo];rfl
   have hmv:a1q [x,y] []=[]:=by cases x<;>rfl
   refine s1b (by rw[hm,ho,hmv];exact List.nodup_nil) (by unfold acls;rw[eo]) ?_
   rw[hm,ho,ev1]
   unfold j1P;rw[eo]
   exact h1
  ·exact dflt h
 ·rename_i t x y r0 eo
  split at h
  ·rename_i a b ev1
   obtain⟨h1,h2⟩:=h
   have h1:=of_decide_eq_true h1
   refine .inl ⟨_,_,?_,h2⟩
   have hm:b1v cfg f o=[]:=by unfold b1v;rw[eo]
   have ho:o.op.operands.toList=[x,y]:=by rw[eo];rfl
   have hmv:a1q [x,y] []=[]:=by cases x<;>rfl
   refine s1b (by rw[hm,ho,hmv];exact List.nodup_nil) (by unfold acls;rw[eo]) ?_
   rw[hm,ho,ev1]
   unfold j1P;rw[eo]
   simp only[abin,AV.toVal]
   have:g1A P (do eqGuard .add t x y (.string a) (.string b);binOp .add t (.string a) (.string b))=some (.string (a++b)):=by
    have e0:eqGuard .add t x y (.string a) (.string b)=.pure ():=rfl
    rw[e0]
    show g1A P (binOp .add t (.string a) (.string b))=_
    unfold binOp Op.stringOp
    simp only[h1,if_false];rfl
   rw[this];rfl
  ·exact dflt h
 ·rename_i c eo
  split at h
  ·rename_i cv ec
   split at h
   ·rename_i hn
    have hn:=of_decide_eq_true hn
    split at h
    ·rename_i g first captured args ev1
     split at h
     ·exact h.elim
     ·rename_i hl
      obtain⟨r,known,h1,h2⟩:=hkc _ _ _ _ _ _ h
      have hcl:∀vs,acls cfg f o vs=.glob true:=by intro vs;unfold acls;rw[eo];simp only[ec]
      obtain⟨out,rm',H'⟩:=r
      cases out with
      |ret v=>
       refine .inl ⟨_,_,?_,h2⟩
       have hg:f1T P cfg call f o (.func (.func g) first captured::args) s.g=some (.val v {s.g with H:=H'}):=by
        unfold f1T;rw[eo];simp only[ec,g1W,hl,Bool.false_eq_true,if_false,h1]
       unfold aop
       simp only[hn,if_true,hcl,ev1,hg]
      |panic v=>
       refine .inr ⟨_,_,?_,h2⟩
       have hg:f1T P cfg call f o (.func (.func g) first captured::args) s.g=some (.panic v {s.g with H:=H'}):=by
        unfold f1T;rw[eo];simp only[ec,g1W,hl,Bool.false_eq_true,if_false,h1]
       unfold aop
       simp only[hn,if_true,hcl,ev1,hg]
    ·exact h.elim
   ·exact h.elim
  ·rename_i ec
   split at h
   ·rename_i st xt e0 e1
    split at h
    ·rename_i e xd hst hxt
     split at h
     ·exact dflt h
     ·rename_i hxd
      split at h
      ·rename_i sz rows own b ev1
       split at h
       ·rename_i sz' new ii hb hi hn
        have hn:=of_decide_eq_true hn
        have hcl:∀vs,acls cfg f o vs=.pure:=by intro vs;unfold acls;rw[eo];simp only[ec]
        have hp:∀r,f1R P c.argTypes (.slice sz rows own) b=some r→aop P cfg call f o s=some (.next (kput cfg f o s r)):=by
         intro r hr
         refine s1b hn (hcl _) ?_
         rw[ev1]
         unfold j1P;rw[eo];simp only[ec,g1e,hr]
        have hempty:∀ii,P.info? e=some ii→new=[]→f1R P c.argTypes (.slice sz rows own) b=some (.slice sz rows own):=by
         intro ii hi hnew;unfold f1R
         simp only[e0,e1,hst,hxt]
         cases xd with
         |int k=>exact absurd rfl (hxd k)
         |_=>simp only[hb,hi,hnew,if_true]
        have go:∀{k':AV→KT},new≠[]→(b2s P e sz rows own sz' new k').wp P cfg call QD QR→∃v,f1R P c.argTypes (.slice sz rows own) b=some v∧(k' v).wp P cfg call QD QR:=by
         intro k' hne hk
         refine v1Q hne ?_ hk
         intro ii v hi hv
         unfold f1R
         simp only[e0,e1,hst,hxt]
         cases xd with
         |int k=>exact absurd rfl (hxd k)
         |_=>simp only[hb,hi,if_neg hne];exact hv
        split at h
        ·split at h
         ·exact .inl ⟨_,_,hp _ (hempty ii hi rfl),h⟩
         ·obtain⟨v,h1,h2⟩:=go (by simp) h
          exact .inl ⟨_,_,hp _ h1,h2⟩
        ·rcases i1v h with ⟨hbb,h'⟩|⟨hbb,h'⟩
         ·exact .inl ⟨_,_,hp _ (hempty ii hi (List.isEmpty_iff.1 hbb)),h'⟩
         ·obtain⟨v,h1,h2⟩:=go (fun hh=>by rw[hh] at hbb;cases hbb) h'
          exact .inl ⟨_,_,hp _ h1,h2⟩
       ·exact dflt h
      ·exact dflt h
    ·exact dflt h
   ·exact dflt h
  ·exact dflt h
 ·exact dflt h
theorem m1G (hkc:KCS P cfg call QD QR kc) {dsts:List (Option Tmp)}:∀{l:List Oper} {kn:Nat} {acc:List (Option Cls)} {s:St} {k:AX→List (Option Cls)→Nat→St→KT},(kops P cfg rs kc f dsts l kn acc s k).wp P cfg call QD QR→
  ∃x acc' kn' s',h1b P cfg call f dsts l acc s=some (x,acc',s')∧(k x acc' kn' s').wp P cfg call QD QR:=by
 intro l
 induction l with
 |nil=>intro kn acc s k h;exact⟨_,_,_,_,rfl,h⟩
 |cons o r ih=>
  intro kn acc s k h
  unfold kops at h
  obtain⟨w,kn1,hw,h⟩:=u1g h
  simp only[h1b,hw]
  cases w with
  |true=>
   rcases b2w hkc h with ⟨s',kn2,h1,h2⟩|⟨v,s',h1,h2⟩
   ·simp only[h1];exact ih h2
   ·simp only[h1];exact⟨_,_,_,_,rfl,h2⟩
  |false=>exact ih h
mutual
theorem f1X {n:Nat}:∀{v:AV} {k:KT},(m1E n v k).wp P cfg call QD QR→v.low n=true∧k.wp P cfg call QD QR
 | .any,_,h=>⟨rfl,h⟩
 | .val _,_,h=>⟨rfl,h⟩
 | .lp _ _ _,_,h=>⟨rfl,h⟩
 | .slice _ _ _,_,h=>h
 | .ref cs,_,h=>by rw[m1E] at h;rw[AV.low];exact c1U h
 | .ptr id _,_,h=>by
  rw[m1E] at h
  rw[AV.low]
  split at h
  ·rename_i e;exact⟨e,h⟩
  ·exact h.elim
 | .func _ a b,_,h=>by
  rw[m1E] at h
  obtain⟨h1,h2⟩:=c1U h
  obtain⟨h3,h4⟩:=c1U h2
  exact⟨by rw[AV.low,h1,h3];rfl,h4⟩
 | .iface _ v,_,h=>by rw[m1E] at h;rw[AV.low];exact f1X h
 | .agg cs,_,h=>by rw[m1E] at h;rw[AV.low];exact c1U h
 | .tuple cs,_,h=>by rw[m1E] at h;rw[AV.low];exact c1U h
theorem c1U {n:Nat}:∀{l:List AV} {k:KT},(m1F n l k).wp P cfg call QD QR→lows n l=true∧k.wp P cfg call QD QR
 |[],_,h=>⟨rfl,h⟩
 |v::l,_,h=>by
  rw[m1F] at h
  obtain⟨h1,h2⟩:=f1X h
  obtain⟨h3,h4⟩:=c1U h2
  exact⟨by rw[lows,h1,h3];rfl,h4⟩
end
theorem k1b {n:Nat}:∀{l:List (Option LCell)} {k:KT},(u1d n l k).wp P cfg call QD QR→lowL n l=true∧k.wp P cfg call QD QR
 |[],_,h=>⟨rfl,h⟩
 |none::l,_,h=>by rw[lowL];exact k1b h
 |some (_,cs)::l,_,h=>by
  rw[u1d] at h
  obtain⟨h1,h2⟩:=c1U h
  obtain⟨h3,h4⟩:=k1b h2
  exact⟨by rw[lowL,h1,h3];rfl,h4⟩
theorem p1i {n:Nat}:∀{l:List ADef} {k:KT},(e2s n l k).wp P cfg call QD QR→lowD n l=true∧k.wp P cfg call QD QR
 |[],_,h=>⟨rfl,h⟩
 |d::l,_,h=>by
  rw[e2s] at h
  obtain⟨h1,h2⟩:=c1U h
  obtain⟨h3,h4⟩:=p1i h2
  exact⟨by rw[lowD,h1,h3];rfl,h4⟩
theorem u1j {n:Nat} {m:RM} {k:KT} (h:(g2d n m k).wp P cfg call QD QR):a2O n m=true∧k.wp P cfg call QD QR:=by
 cases m with
 |panicking v b=>exact f1X h
 |none=>exact⟨rfl,h⟩
 |returning=>exact⟨rfl,h⟩
theorem j1e {n:Nat}:∀{l:Heap} {k:KT},(y1H n l k).wp P cfg call QD QR→lowss n l=true∧k.wp P cfg call QD QR
 |[],_,h=>⟨rfl,h⟩
 |cs::l,_,h=>by
  rw[y1H] at h
  obtain⟨h1,h2⟩:=c1U h
  obtain⟨h3,h4⟩:=j1e h2
  exact⟨by rw[lowss,h1,h3];rfl,h4⟩
theorem u1k {n:Nat} {s:St} {k:KT} (h:(b2t n s k).wp P cfg call QD QR):v1w n s=true∧k.wp P cfg call QD QR:=by
 unfold b2t at h
 obtain⟨h1,h⟩:=c1U h
 obtain⟨h2,h⟩:=k1b h
 obtain⟨h3,h⟩:=p1i h
 obtain⟨h4,h⟩:=u1j h
 obtain⟨h5,h⟩:=j1e h
 exact⟨by unfold v1w;rw[h1,h2,h3,h4,h5];rfl,h⟩
theorem l1a {live:Option Nat} {s:St} {k:St→KT} (h:(b2u live s k).wp P cfg call QD QR):∃s0,f1u live s=some s0∧(k s0).wp P cfg call QD QR:=by
 unfold b2u at h
 unfold f1u
 split at h
 ·exact⟨_,rfl,h⟩
 ·rename_i m
  split at h
  ·rename_i hall
   simp only[hall,if_true]
   split at h
   ·rename_i hc
    obtain⟨h1,h2⟩:=u1k h
    simp only[hc]
    refine⟨_,rfl,?_⟩
    unfold v1x
    split
    ·rename_i hb
     rw[Nat.ble_eq] at hb
     have:s.g.H.take s.g.base=s.g.H:=List.take_of_length_le hb
     rw[this] at h2;exact h2
    ·simp only[h1];exact h2
   ·rename_i hc
    simp only[hc]
    exact⟨_,rfl,h⟩
  ·exact h.elim
theorem v1R {n:Nat} {o:Out} {k:KT} (h:(i2y n o k).wp P cfg call QD QR):o.low n=true∧k.wp P cfg call QD QR:=by
 cases o with
 |ret v=>exact f1X h
 |panic v=>exact f1X h
theorem u1l (hkc:KCS P cfg call QD QR kc) {o:Oper} {kn:Nat} {s:St} {k:Nat→St→KT} {kp:AV→St→KT} (h:(b2v cfg kc f o kn s k kp).wp P cfg call QD QR):
  (∃s' kn',g1Z cfg call f o s=some (.next s')∧(k kn' s').wp P cfg call QD QR)∨∃v s',g1Z cfg call f o s=some (.panic v s')∧(kp v s').wp P cfg call QD QR:=by
 unfold b2v at h
 unfold g1Z
 split at h
 ·exact h.elim
 ·rename_i e0
  try simp only[e0]
  split at h
  ·rename_i c hop
   split at h
   ·rename_i x g first captured args hcc hv
    try simp only[hop] at hv⊢
    simp only[hcc,hv]
    split at h
    ·exact h.elim
    ·rename_i t gen hlp
     try simp only[hlp]
     split at h
     ·rename_i gen' cs hlh
      try simp only[hlh]
      split at h
      ·exact h.elim
      ·rename_i hg
       try simp only[hg]
       split at h
       ·exact h.elim
       ·rename_i hany
        try simp only[hany]
        obtain⟨r,known,h1,h2⟩:=hkc _ _ _ _ _ _ h
        try simp only[h1]
        unfold i1s
        split at h2
        ·rename_i cs' hdrop
         obtain⟨h3,h2⟩:=v1R h2
         obtain⟨h4,h2⟩:=c1U h2
         obtain⟨h5,h2⟩:=j1e h2
         try simp only[hdrop,h3,h4,h5,Bool.and_self]
         split at h2
         ·rename_i v hout
          left
          exact⟨_,_,by simp only[hout,hop],h2⟩
         ·rename_i v hout
          right
          exact⟨_,_,by simp only[hout,hop],h2⟩
        ·exact h2.elim
     ·exact h.elim
   ·exact h.elim
  ·exact h.elim
theorem p1j (hkc:∀QD,KCS P cfg call QD QR kc):∀{c:Code} {QD:List (St→Prop)} {b:Nat} {kn:Nat} {s:St} {k:AX→Nat→St→KT},(i1c P cfg rs kc f b c kn s k).wp P cfg call QD QR→∃x kn' s',c1O P cfg call f b c s=some (x,s')∧(k x kn' s').wp P cfg call QD QR:=by
 intro c
 induction c with
 |skip=>intro QD b kn s k h;exact⟨_,_,_,rfl,h⟩
 |region id ops d=>
  intro QD b kn s k h
  cases d with
  |false=>
   unfold i1c at h
   cases hl:d1H (cfg f).live (2000000+id) with
   |none=>
    simp only[hl] at h
    obtain⟨x,acc,kn',s',h1,h2⟩:=m1G (hkc _) h
    have:=y1x ops.toList 0 [] s x acc s' (by simp) h1
    exact⟨x,kn',s',by simpa only[c1O,hl,List.drop_zero] using this,h2⟩
   |some m=>
    simp only[hl] at h
    obtain⟨x,acc,kn',s',h1,h2⟩:=m1G (hkc _) h
    have h3:=v1J (q:=ops.toList.drop (ops.size-1)) (ops.toList.take (ops.size-1)) 0 [] s x acc s' (by rw[List.drop_zero,List.take_append_drop]) h1
    rw[List.drop_zero] at h3
    have e:(List.range ops.size).take (ops.toList.take (ops.size-1)).length=List.range (ops.size-1):=by
     rw[List.take_range];congr 1;simp
    rw[e] at h3
    simp only[c1O,hl,l1A,h3]
    cases x with
    |normal=>
     simp only at h2⊢
     split at h2
     ·rename_i o ho
      rcases u1l (hkc _) h2 with ⟨s2,kn2,h4,h5⟩|⟨v,s2,h4,h5⟩
      ·exact⟨.normal,kn2,s2,by rw[ho];simp only[h4],h5⟩
      ·exact⟨.panic v,0,s2,by rw[ho];simp only[h4],h5⟩
     ·exact h2.elim
    |exit id=>exact⟨_,_,_,rfl,h2⟩
    |ret=>exact⟨_,_,_,rfl,h2⟩
    |panic v=>exact⟨_,_,_,rfl,h2⟩
  |true=>
   unfold i1c at h
   obtain⟨x,acc,kn',s',h1,h2⟩:=m1G (hkc _) h
   cases x with
   |normal=>
    simp only at h2
    split at h2
    ·rename_i hc
     have:=v1K ops.toList 0 [] [] s acc s' h1 hc
     exact⟨.normal,kn',s',by simp only[c1O,this],h2⟩
    ·exact h2.elim
   |panic v=>
    simp only at h2
    split at h2
    ·rename_i v2 s2 hc
     have:=t1N ops.toList 0 [] [] s v acc s' _ h1 hc
     exact⟨.panic v2,0,g1Y s2,by simp only[c1O,j1c this,this],h2⟩
    ·exact h2.elim
   |_=>exact h2.elim
 |seq x y ihx ihy=>
  intro QD b kn s k h
  unfold i1c at h
  split at h
  ·rename_i hst
   obtain⟨r,kn',s',h1,h2⟩:=ihx h
   cases r with
   |normal=>
    obtain⟨s2,h3,h4⟩:=l1a h2
    obtain⟨r,kn2,s3,h5,h6⟩:=ihy h4
    exact⟨r,kn2,s3,by simp only[c1O,h1,h3];exact h5,h6⟩
   |exit id=>exact⟨_,_,_,by simp only[c1O,h1],h2⟩
   |ret=>exact⟨_,_,_,by simp only[c1O,h1],h2⟩
   |panic v=>exact⟨_,_,_,by simp only[c1O,h1],h2⟩
  ·rename_i hst
   have hno:d1H (cfg f).live (k1Q y)=none:=by
    cases e:d1H (cfg f).live (k1Q y) with
    |none=>rfl
    |some m=>rw[e] at hst;cases hst
   obtain⟨r,kn',s',h1,h2⟩:=ihx h
   cases r with
   |normal=>
    obtain⟨r,kn2,s2,h3,h4⟩:=ihy h2
    exact⟨r,kn2,s2,by simp only[c1O,h1,hno,f1u];exact h3,h4⟩
   |exit id=>exact⟨_,_,_,by simp only[c1O,h1],h2⟩
   |ret=>exact⟨_,_,_,by simp only[c1O,h1],h2⟩
   |panic v=>exact⟨_,_,_,by simp only[c1O,h1],h2⟩
 |cond c x y ihx ihy=>
  intro QD b kn s k h
  cases c with
  |tmp t=>
   simp only[i1c] at h
   split at h
   ·rename_i v e
    have he:e1I s.tmps (.tmp t)=.val (.bool v):=by simp only[e1I,List.getD_eq_getElem?_getD,e,Option.getD_some]
    have go:∀(v':Bool) kn',v=v'→(i1c P cfg rs kc f b (match v' with|true=>x|false=>y) kn' s k).wp P cfg call QD QR→∃x_1 kn' s',c1O P cfg call f b (.cond (.tmp t) x y) s=some (x_1,s')∧(k x_1 kn' s').wp P cfg call QD QR:=by
     intro v' kn' hv h
     subst hv
     cases v with
     |true=>obtain⟨r,kn2,s2,h3,h4⟩:=ihx h;exact⟨r,kn2,s2,by simp only[c1O,he];exact h3,h4⟩
     |false=>obtain⟨r,kn2,s2,h3,h4⟩:=ihy h;exact⟨r,kn2,s2,by simp only[c1O,he];exact h3,h4⟩
    split at h
    ·cases v with
     |true=>exact go true _ rfl h
     |false=>exact go false _ rfl h
    ·rcases i1v h with ⟨rfl,h'⟩|⟨rfl,h'⟩
     ·rw[k1t e] at h';exact go true _ rfl h'
     ·rw[k1t e] at h';exact go false _ rfl h'
   ·exact h.elim
  |_=>exact h.elim
 |block id x ih=>
  intro QD b kn s k h
  unfold i1c at h
  obtain⟨r,kn',s',h1,h2⟩:=ih h
  cases r with
  |exit i=>
   simp only at h2
   split at h2
   ·rename_i e;have e:=of_decide_eq_true e
    exact⟨_,_,_,by simp only[c1O,h1,e,if_true],h2⟩
   ·rename_i e;have e:=of_decide_eq_false e
    exact⟨_,_,_,by simp only[c1O,h1,e,if_false],h2⟩
  |normal=>exact⟨_,_,_,by simp only[c1O,h1],h2⟩
  |ret=>exact⟨_,_,_,by simp only[c1O,h1],h2⟩
  |panic v=>exact⟨_,_,_,by simp only[c1O,h1],h2⟩
 |exit id=>intro QD b kn s k h;exact⟨_,_,_,rfl,h⟩
 |ret=>intro QD b kn s k h;exact⟨_,_,_,rfl,h⟩
 |scope x ih=>intro QD b kn s k h;unfold i1c at h;obtain⟨x,kn',s',h1,h2⟩:=ih h;exact⟨x,kn',s',by simp only[c1O];exact h1,h2⟩
 |label l=>intro QD b kn s k h;exact⟨_,_,_,rfl,h⟩
 |loop x ih=>
  intro QD b kn s k h
  unfold i1c at h
  obtain⟨s0,h1,h2⟩:=l1a h
  obtain⟨r,s',h3,h4⟩:=h2 s h1
  exact⟨r,0,s',h3,h4⟩
 |_=>intro QD b kn s k h;exact h.elim
theorem s1c (hkc:KCS P cfg call QD QR kc):∀{l:List ADef} {m:RM} {H:Heap} {k:RM→Heap→KT},(p1g kc l m H k).wp P cfg call QD QR→∃m' H',d1M call l m H=some (m',H')∧(k m' H').wp P cfg call QD QR:=by
 intro l
 induction l with
 |nil=>intro m H k h;exact⟨_,_,rfl,h⟩
 |cons d l ih=>
  intro m H k h
  unfold p1g at h
  obtain⟨⟨out,rm',H'⟩,known,h1,h2⟩:=hkc _ _ _ _ _ _ h
  simp only[d1M,h1]
  cases out with
  |ret v=>exact ih h2
  |panic v=>exact ih h2
theorem m1H (hkc:KCS P cfg call QD QR kc) {fn:Func} {s:St} {m:RM} {k:CRes→KT} (h:(kfin P kc fn s m k).wp P cfg call QD QR):∃r,d1w P call fn s m=some r∧(k r).wp P cfg call QD QR:=by
 unfold kfin at h
 unfold d1w
 cases hr:s.g.rm with
 |none=>
  simp only[hr] at h⊢
  obtain⟨m',H',h1,h2⟩:=s1c hkc h
  rw[h1]
  cases m' with
  |none=>exact h2.elim
  |returning=>
   simp only at h2⊢
   cases e:c1X P s H' fn.results.toList with
   |none=>rw[e] at h2;exact h2.elim
   |some l=>rw[e] at h2;exact⟨_,rfl,h2⟩
  |panicking v b=>cases b with
   |false=>exact⟨_,rfl,h2⟩
   |true=>exact h2.elim
 |returning=>
  simp only[hr] at h⊢
  cases hd:s.g.defers with
  |cons d l=>rw[hd] at h;exact h.elim
  |nil=>
   rw[hd] at h
   simp only[List.isEmpty_nil,if_true]
   unfold e2t at h
   cases m with
   |none=>exact h.elim
   |returning=>
    simp only at h⊢
    cases e:c1X P s s.g.H fn.results.toList with
    |none=>rw[e] at h;exact h.elim
    |some l=>rw[e] at h;exact⟨_,rfl,h⟩
   |panicking v b=>cases b with
    |false=>exact⟨_,rfl,h⟩
    |true=>exact h.elim
 |panicking v0 b0=>
  simp only[hr] at h⊢
  cases hd:s.g.defers with
  |cons d l=>rw[hd] at h;exact h.elim
  |nil=>
   rw[hd] at h
   simp only[List.isEmpty_nil,if_true]
   unfold e2t at h
   cases m with
   |none=>exact h.elim
   |returning=>
    simp only at h⊢
    cases e:c1X P s s.g.H fn.results.toList with
    |none=>rw[e] at h;exact h.elim
    |some l=>rw[e] at h;exact⟨_,rfl,h⟩
   |panicking v b=>cases b with
    |false=>exact⟨_,rfl,h⟩
    |true=>exact h.elim
theorem y1K {cut:Option Bool} {rm:RM} {n:Nat} {r:CRes} {k:CRes→KT} (h:(kcut cut rm n r k).wp P cfg call QD QR):(k (a2P rm n r)).wp P cfg call QD QR:=by
 unfold kcut at h
 cases rm with
 |none=>
  unfold a2P cutRes
  rcases cut with _|_|_
  rotate_left 2
  ·
   obtain⟨h1,h2⟩:=f1X h
   obtain⟨h3,h2⟩:=j1e h2
   have h1:r.out.low n=true:=by cases ho:r.out<;>rw[ho] at h1<;>exact h1
   cases hb:Nat.ble r.H.length n with
   |true=>
    rw[Nat.ble_eq] at hb
    rw[List.take_of_length_le hb] at h2;exact h2
   |false=>simp only[h1,h3,Bool.and_self];exact h2
  ·obtain⟨h1,h2⟩:=h
   cases hb:Nat.ble r.H.length n with
   |true=>exact h2
   |false=>
    have h1:r.out.low n=false:=by simpa [hb] using h1
    simp only[h1,Bool.false_and];exact h2
  ·obtain⟨h1,h2⟩:=h
   simp only[h1];exact h2
 |_=>exact h
def x1v (P:Program) (cfg:FuncId→FCfg) (call:CallF):Prop:=
 ∀f fn c args rm H r,(cfg f).ext=false→P.funcs[f]? =some fn→fn.body=some c→a2Z P cfg call f fn c args rm H=some r→call f args rm H=some (f1v P (cfg f).norm fn.resultTypes.toList (a2P rm H.length r))
theorem d1f {ext:Ext} (hx:∀f,(cfg f).ext=false→ext f=none):x1v P cfg (ev P cfg ext):=fun f fn c args rm H r he hf hb h=>g2T (hx f he) hf hb h
theorem m1I (hbc:x1v P cfg call) (hkc:∀QD,KCS P cfg call QD QR kc) {cut:Option Bool} {args:List AV} {kn:Nat} {rm:RM} {H:Heap} {k:CRes→Bool→KT} (h:(kfun P cfg rs kc cut f args kn rm H k).wp P cfg call QD QR):
  ∃r known,call f args rm H=some r∧(k r known).wp P cfg call QD QR:=by
 unfold kfun at h
 split at h
 ·exact h.elim
 rename_i hxt
 split at h
 ·exact h.elim
 ·rename_i fn hf
  split at h
  ·exact h.elim
  ·rename_i c hb
   obtain⟨x,kn,s,h1,h2⟩:=p1j hkc h
   have key:∃r,a2Z P cfg call f fn c args rm H=some r∧(kcut cut rm H.length r fun r=>k (f1v P (cfg f).norm fn.resultTypes.toList r) (u1e fn kn)).wp P cfg call QD QR:=by
    unfold g2e at h1
    unfold a2Z
    rw[h1]
    unfold i2z at h2
    cases x with
    |normal=>exact m1H (hkc _) h2
    |ret=>exact m1H (hkc _) h2
    |panic v=>exact m1H (hkc _) h2
    |exit id=>exact h2.elim
   obtain⟨r,h3,h4⟩:=key
   exact⟨_,_,hbc _ _ _ _ _ _ _ hxt hf hb h3,y1K h4⟩
variable {sh:FuncId→KM}
theorem f1c (hbc:x1v P cfg call):∀n QD,KCS P cfg call QD QR (k1a P cfg rs sh n):=by
 intro n
 induction n with
 |zero=>
  intro QD g args kn rm H k h
  unfold k1a at h
  split at h
  ·exact h.elim
  ·exact h.elim
  ·obtain⟨r,h1,h2⟩:=r1m h
   exact⟨r,false,h1,h2⟩
 |succ n ih=>
  intro QD g args kn rm H k h
  unfold k1a at h
  split at h
  ·exact m1I hbc ih h
  ·exact m1I hbc ih h
  ·obtain⟨r,h1,h2⟩:=r1m h
   exact⟨r,false,h1,h2⟩
theorem d1P (hbc:x1v P cfg call) {n:Nat} {cut:Bool} {args:List AV} {rm:RM} {H:Heap} (h:(u1f P cfg rs sh n cut f args rm H).wp P cfg call QD QR):∃r,call f args rm H=some r∧QR r:=by
 obtain⟨r,_,h1,h2⟩:=m1I hbc (f1c hbc n) h
 exact⟨r,h1,h2⟩
end
end Go.Eng
end

section
/-
  THE ENGINE, part 28: trees of the second kind: loops by their rounds; ways into a tree; aids.
-/
set_option linter.unusedVariables false
set_option linter.unusedSimpArgs false
namespace Go.Eng
def b2x:Nat→Nat→List (Nat×AV)→List AV
 |_,0,_=>[]
 |i,n+1,l=>(match l.lookup i with|some v=>v|none=>.any)::b2x (i+1) n l
def tm2 (n:Nat) (l:List (Nat×AV)):List AV:=b2x 0 n l
def g2f:Nat→Nat→List (Nat×LCell)→List (Option LCell)
 |_,0,_=>[]
 |i,n+1,l=>l.lookup i::g2f (i+1) n l
def lm2 (n:Nat) (l:List (Nat×LCell)):List (Option LCell):=g2f 0 n l
def vI (n:Int):AV:=.val (.int .i64 n)
def vB (b:Bool):AV:=.val (.bool b)
def vS (s:ByteArray):AV:=.val (.string s)
def KT.T:KT→KT
 | .branch _ t _=>t
 | .alt t _=>t
 | .need _ k=>k
 | .row _ _ _ k=>k
 | .byte _ _ _ k=>k
 | .bytes _ _ k=>k
 | .prop _ k=>k
 | .call _ _ _ _ _ k=>k
 | .out t=>t
 | .stage t _=>t
 |t=>t
def KT.K:KT→St→KT
 | .stage _ k=>k
 |_=>fun _=>.fail
def KT.F:KT→KT
 | .branch _ _ f=>f
 | .alt _ f=>f
 |t=>t
def KT.I:KT→Int→KT
 | .exI k,i=>k i
 |t,_=>t
def KT.B:KT→Bool→KT
 | .exB k,i=>k i
 |t,_=>t
def KT.S:KT→ByteArray→KT
 | .exS k,i=>k i
 |t,_=>t
def KT.R:KT→List (List AV)→KT
 | .exR k,i=>k i
 |t,_=>t
def KT.A:KT→AV→KT
 | .exA k,i=>k i
 |t,_=>t
def KT.Y:KT→UInt8→KT
 | .exY k,i=>k i
 |t,_=>t
def KT.atLoop:KT→Option St
 | .loop _ _ _ s _=>some s
 |_=>none
section
variable (P:Program) (cfg:FuncId→FCfg) (rs:TypeId→List KSh) (kc:KC)
def i2A (live:Option Nat) (k:AX→St→KT) (x:AX) (s:St):KT:=
 match x with
 | .normal=>b2u live s .done
 | .exit id=>.out (k (.exit id) s)
 | .ret=>.out (k .ret s)
 | .panic v=>.out (k (.panic v) s)
def KT.round (t:KT) (s:St):KT:=
 match t with
 | .loop f b x _ k=>i1c P cfg rs kc f b x 0 s fun r _ s'=>i2A (d1H (cfg f).live b) k r s'
 |_=>.fail
end
section
variable {P:Program} {cfg:FuncId→FCfg} {rs:TypeId→List KSh} {call:CallF} {QD:List (St→Prop)} {QR:CRes→Prop} {kc:KC}
theorem m1J {σ:Type} {t:KT} (S:σ→St) (Inv:σ→Prop) (m:σ→Nat) (a0:σ) (hkc:∀QD,KCS P cfg call QD QR kc) (h0:t.atLoop=some (S a0)) (hi:Inv a0)
  (hr:∀a,Inv a→(t.round P cfg rs kc (S a)).wp P cfg call ((fun s=>∃a',(Inv a'∧m a'<m a)∧s=S a')::QD) QR):t.wp P cfg call QD QR:=by
 cases t with
 |loop f b x s k=>
  simp only[KT.atLoop,Option.some.injEq] at h0
  intro s1 hs1
  refine g2U (fun n s=>∃a,Inv a∧m a=n∧s=S a) (m a0) ⟨s,hs1,a0,hi,rfl,h0⟩ ?_
  rintro n s2 ⟨a,ha,rfl,rfl⟩ K hK
  obtain⟨r,kn,s3,h1,h2⟩:=p1j hkc (hr a ha)
  refine⟨r,s3,h1,?_⟩
  cases r with
  |normal=>
   obtain⟨s4,h3,h4⟩:=l1a h2
   obtain⟨a',⟨h5,h6⟩,h7⟩:=h4
   exact hK s3 _ h6 ⟨s4,h3,a',h5,rfl,h7⟩
  |exit id=>exact h2
  |ret=>exact h2
  |panic v=>exact h2
 |_=>cases h0
theorem a1j {t t':KT} (h:t=t') (w:t'.wp P cfg call QD QR):t.wp P cfg call QD QR:=h▸w
theorem a1d {b:Bool} {t f:KT} (ht:b=true→t.wp P cfg call QD QR) (hf:b=false→f.wp P cfg call QD QR):(KT.branch b t f).wp P cfg call QD QR:=⟨ht,hf⟩
inductive QLe:List (St→Prop)→List (St→Prop)→Prop
 |nil:QLe [] []
 |cons {Q Q':St→Prop} {l l'}:(∀s,Q s→Q' s)→QLe l l'→QLe (Q::l) (Q'::l')
theorem QLe.refl:∀l,QLe l l
 |[]=>.nil
 |_::l=>.cons (fun _ h=>h) (QLe.refl l)
end
section
variable {P:Program} {cfg:FuncId→FCfg} {call:CallF} {Q:St→Prop} {QD:List (St→Prop)} {QR:CRes→Prop}
theorem a1u {k:KT} (h:k.wp P cfg call QD QR):(KT.need true k).wp P cfg call QD QR:=⟨rfl,h⟩
theorem a1h {k:KT} (h:k.wp P cfg call QD QR):(KT.out k).wp P cfg call (Q::QD) QR:=h
theorem a1e {s:St} (h:Q s):(KT.done s).wp P cfg call (Q::QD) QR:=h
theorem a1t {t:KT} {k:St→KT} (h:t.wp P cfg call ((fun s=>(k s).wp P cfg call QD QR)::QD) QR):(KT.stage t k).wp P cfg call QD QR:=h
theorem a1n {g:FuncId} {args:List AV} {H:Heap} {k:Bool→KT} (hc:∃i,call g args .none H=some ⟨.ret (vB i),.none,H⟩) (h:∀i,(k i).wp P cfg call QD QR):(KT.exB fun i=>.call g args .none H ⟨.ret (vB i),.none,H⟩ (k i)).wp P cfg call QD QR:=by
 obtain⟨i,hi⟩:=hc
 exact⟨i,hi,h i⟩
end
theorem a1Z {x:Nat} (h:x<9223372036854775807):IntKind.i64.wrap ((x:Int)+1)=((x+1:Nat):Int):=by
 rw[IntKind.wrap_i64];omega
theorem g1x {x:Nat} (h:x<9223372036854775807):IntKind.i64.wrap (((x+1:Nat):Int)-1)=(x:Int):=by
 rw[IntKind.wrap_i64];omega
theorem g2g {x y:Nat} (h:x+y<9223372036854775808):IntKind.i64.wrap ((x:Int)+(y:Int))=((x+y:Nat):Int):=by
 rw[IntKind.wrap_i64];omega
theorem kmax {a b:Nat}:(if (a:Int)>(b:Int) then (a:Int) else (b:Int))=((max b a:Nat):Int):=by
 split<;>omega
end Go.Eng
end

section
/-
  THE ENGINE, part 29: plain data (CT): numbers, truth values, texts, lists of rows; what comes in is such data.
-/
set_option linter.unusedVariables false
set_option linter.unusedSimpArgs false
namespace Go.Eng
inductive CT where
 |int (k:IntKind) (n:Int)
 |bool (b:Bool)
 |str (s:ByteArray)
 |rows (sz:Nat) (l:List (List CT))
 deriving Inhabited
abbrev Row:=List CT
mutual
def CT.av:CT→AV
 | .int k n=>.val (.int k n)
 | .bool b=>.val (.bool b)
 | .str s=>.val (.string s)
 | .rows sz l=>.slice sz (avss l) .no
def avs:List CT→List AV
 |[]=>[]
 |c::l=>c.av::avs l
def avss:List (List CT)→List (List AV)
 |[]=>[]
 |r::l=>avs r::avss l
end
theorem s1d:∀l:List CT,avs l=l.map CT.av
 |[]=>rfl
 |c::l=>by rw[avs,s1d l];rfl
theorem g1J:∀l:List (List CT),avss l=l.map avs
 |[]=>rfl
 |r::l=>by rw[avss,g1J l];rfl
theorem b1L (l:List (List CT)):(avss l).length=l.length:=by rw[g1J,List.length_map]
theorem g1y {l:List (List CT)} {i:Nat} {r:List CT} (h:l[i]? =some r):(avss l)[i]? =some (avs r):=by rw[g1J,List.getElem?_map,h];rfl
theorem l1b (a b:List (List CT)):avss (a++b)=avss a++avss b:=by simp only[g1J,List.map_append]
mutual
theorem i2B (n:Nat):∀c:CT,c.av.low n=true
 | .int _ _=>rfl
 | .bool _=>rfl
 | .str _=>rfl
 | .rows _ l=>by rw[CT.av,AV.low];exact o1e n l
theorem s1e (n:Nat):∀l:List CT,lows n (avs l)=true
 |[]=>rfl
 |c::l=>by rw[avs,lows,i2B n c,s1e n l];rfl
theorem o1e (n:Nat):∀l:List (List CT),lowss n (avss l)=true
 |[]=>rfl
 |r::l=>by rw[avss,lowss,s1e n r,o1e n l];rfl
end
mutual
theorem i2C (ρ:Nat→Nat):∀c:CT,c.av.ren ρ=c.av
 | .int _ _=>rfl
 | .bool _=>rfl
 | .str _=>rfl
 | .rows _ l=>by rw[CT.av,AV.ren,s1f ρ l]
theorem k1c (ρ:Nat→Nat):∀l:List CT,rens ρ (avs l)=avs l
 |[]=>rfl
 |c::l=>by rw[avs,rens,i2C ρ c,k1c ρ l]
theorem s1f (ρ:Nat→Nat):∀l:List (List CT),k1F ρ (avss l)=avss l
 |[]=>rfl
 |r::l=>by rw[avss,k1F,k1c ρ r,s1f ρ l]
end
mutual
inductive Has (P:Program):TypeId→List CT→Prop
 |int {t:TypeId} {k:IntKind} {n:Int}:P.underlying t=some (.int k)→(Lit.int k n).wf=true→Has P t [.int k n]
 |bool {t:TypeId} {b:Bool}:P.underlying t=some .bool→Has P t [.bool b]
 |str {t:TypeId} {s:ByteArray}:P.underlying t=some .string→s.size≤maxLen→Has P t [.str s]
 |slice {t e:TypeId} {l:List (List CT)}:P.underlying t=some (.slice e)→l.length≤maxLen→(∀r∈l,Has P e r)→(∀r∈l,r.length=P.cellsOf e)→Has P t [.rows (P.cellsOf e) l]
 |struct {t:TypeId} {fs:Array Field} {l:List CT}:P.underlying t=some (.struct fs)→HasF P (fs.toList.map (·.type)) l→Has P t l
inductive HasF (P:Program):List TypeId→List CT→Prop
 |nil:HasF P [] []
 |cons {t:TypeId} {ts:List TypeId} {a b:List CT}:Has P t a→HasF P ts b→HasF P (t::ts) (a++b)
end
section
variable {P:Program} {t:TypeId} {l:List CT}
theorem Has.int_inv {k:IntKind} (h:Has P t l) (ht:P.underlying t=some (.int k)):∃n,l=[.int k n]∧(Lit.int k n).wf=true:=by
 cases h with
 |int h1 h2=>rw[ht] at h1;cases h1;exact⟨_,rfl,h2⟩
 |bool h1=>rw[ht] at h1;cases h1
 |str h1=>rw[ht] at h1;cases h1
 |slice h1=>rw[ht] at h1;cases h1
 |struct h1=>rw[ht] at h1;cases h1
theorem Has.bool_inv (h:Has P t l) (ht:P.underlying t=some .bool):∃b,l=[.bool b]:=by
 cases h with
 |int h1 h2=>rw[ht] at h1;cases h1
 |bool h1=>exact⟨_,rfl⟩
 |str h1=>rw[ht] at h1;cases h1
 |slice h1=>rw[ht] at h1;cases h1
 |struct h1=>rw[ht] at h1;cases h1
theorem Has.str_inv (h:Has P t l) (ht:P.underlying t=some .string):∃s,l=[.str s]∧s.size≤maxLen:=by
 cases h with
 |int h1 h2=>rw[ht] at h1;cases h1
 |bool h1=>rw[ht] at h1;cases h1
 |str h1 h2=>exact⟨_,rfl,h2⟩
 |slice h1=>rw[ht] at h1;cases h1
 |struct h1=>rw[ht] at h1;cases h1
theorem Has.slice_inv {e:TypeId} (h:Has P t l) (ht:P.underlying t=some (.slice e)):∃rs,l=[.rows (P.cellsOf e) rs]∧rs.length≤maxLen∧(∀r∈rs,Has P e r)∧∀r∈rs,r.length=P.cellsOf e:=by
 cases h with
 |int h1 h2=>rw[ht] at h1;cases h1
 |bool h1=>rw[ht] at h1;cases h1
 |str h1=>rw[ht] at h1;cases h1
 |slice h1 h2 h3 h4=>rw[ht] at h1;cases h1;exact⟨_,rfl,h2,h3,h4⟩
 |struct h1=>rw[ht] at h1;cases h1
theorem Has.struct_inv {fs:Array Field} (h:Has P t l) (ht:P.underlying t=some (.struct fs)):HasF P (fs.toList.map (·.type)) l:=by
 cases h with
 |int h1 h2=>rw[ht] at h1;cases h1
 |bool h1=>rw[ht] at h1;cases h1
 |str h1=>rw[ht] at h1;cases h1
 |slice h1=>rw[ht] at h1;cases h1
 |struct h1 h2=>rw[ht] at h1;cases h1;exact h2
def d1x (P:Program) (t:TypeId):Option (List TypeId):=
 match P.underlying t with
 |some (.struct fs)=>some (fs.toList.map (·.type))
 |_=>none
theorem Has.fields {ts:List TypeId} (h:Has P t l) (ht:d1x P t=some ts):HasF P ts l:=by
 unfold d1x at ht
 split at ht
 ·rename_i hu
  simp only[Option.some.injEq] at ht;subst ht
  exact h.struct_inv hu
 ·cases ht
theorem HasF.cons_inv {ts:List TypeId} (h:HasF P (t::ts) l):∃a b,l=a++b∧Has P t a∧HasF P ts b:=by
 cases h with
 |cons h1 h2=>exact⟨_,_,rfl,h1,h2⟩
theorem HasF.nil_inv (h:HasF P [] l):l=[]:=by cases h;rfl
theorem HasF.int {ts:List TypeId} {k:IntKind} (h:HasF P (t::ts) l) (ht:P.underlying t=some (.int k)):∃n r,l=.int k n::r∧(Lit.int k n).wf=true∧HasF P ts r:=by
 obtain⟨a,b,rfl,h1,h2⟩:=h.cons_inv
 obtain⟨n,rfl,hw⟩:=h1.int_inv ht
 exact⟨n,b,rfl,hw,h2⟩
theorem HasF.bool {ts:List TypeId} (h:HasF P (t::ts) l) (ht:P.underlying t=some .bool):∃n r,l=.bool n::r∧HasF P ts r:=by
 obtain⟨a,b,rfl,h1,h2⟩:=h.cons_inv
 obtain⟨n,rfl⟩:=h1.bool_inv ht
 exact⟨n,b,rfl,h2⟩
theorem HasF.str {ts:List TypeId} (h:HasF P (t::ts) l) (ht:P.underlying t=some .string):∃n r,l=.str n::r∧n.size≤maxLen∧HasF P ts r:=by
 obtain⟨a,b,rfl,h1,h2⟩:=h.cons_inv
 obtain⟨n,rfl,hw⟩:=h1.str_inv ht
 exact⟨n,b,rfl,hw,h2⟩
theorem HasF.slice {ts:List TypeId} {e:TypeId} (h:HasF P (t::ts) l) (ht:P.underlying t=some (.slice e)) (sz:Nat) (hsz:P.cellsOf e=sz):∃rs r,l=.rows sz rs::r∧rs.length≤maxLen∧(∀r∈rs,Has P e r)∧HasF P ts r:=by
 obtain⟨a,b,rfl,h1,h2⟩:=h.cons_inv
 obtain⟨n,rfl,h3,h4,h5⟩:=h1.slice_inv ht
 subst hsz
 exact⟨n,b,rfl,h3,h4,h2⟩
end
mutual
def CT.bulk:CT→Nat
 | .int _ _=>1
 | .bool _=>1
 | .str s=>s.size+1
 | .rows _ l=>c1f l+1
def d1g:List CT→Nat
 |[]=>0
 |c::l=>c.bulk+d1g l
def c1f:List (List CT)→Nat
 |[]=>0
 |r::l=>d1g r+c1f l
end
mutual
def l1U {H:Type}:DataW H→Nat
 | .lit (.string bytes)=>bytes.length+1
 | .lit _=>1
 | .nil=>1
 | .ptr d=>l1U d+1
 | .slice elems spare=>n1u elems+n1u spare+1
 | .agg parts=>n1u parts+1
 | .iface _ d=>l1U d+1
 | .map entries=>g2h entries+1
 | .held _=>1
def n1u {H:Type}:List (DataW H)→Nat
 |[]=>0
 |d::r=>l1U d+n1u r
def g2h {H:Type}:List (Lit×DataW H)→Nat
 |[]=>0
 |x::r=>i2D x+g2h r
def i2D {H:Type}:Lit×DataW H→Nat
 |(.string bytes,d)=>bytes.length+l1U d+1
 |(_,d)=>l1U d+1
end
theorem u1m (a b:List CT):d1g (a++b)=d1g a+d1g b:=by
 induction a with
 |nil=>simp [d1g]
 |cons c a ih=>simp only[List.cons_append,d1g,ih];omega
theorem e1j {l:List (List CT)} {r:List CT} (h:r∈l):d1g r≤c1f l:=by
 induction l with
 |nil=>cases h
 |cons a l ih=>
  rw[c1f]
  rcases List.mem_cons.1 h with rfl|h
  ·omega
  ·have:=ih h;omega
theorem e2u (c:CT):0<c.bulk:=by cases c<;>simp [CT.bulk]
theorem b2y (l:List CT):l.length≤d1g l:=by
 induction l with
 |nil=>simp [d1g]
 |cons c l ih=>have:=e2u c;simp only[List.length_cons,d1g];omega
def layF (P:Program):Nat→List Field→Option Nat
 |o,[]=>some o
 |o,f::r=>if f.offset=o then layF P (o+P.cellsOf f.type) r else none
def v1S (P:Program) (ts:List TypeId) (t:TypeId):Bool:=
 match P.underlying t with
 |some (.int _)=>true
 |some .bool=>true
 |some .string=>true
 |some (.slice e)=>ts.contains e&&decide (0<P.cellsOf e)
 |some (.struct fs)=>(fs.toList.all fun f=>ts.contains f.type)&&(layF P 0 fs.toList==some (P.cellsOf t))
 |_=>false
def s1g (P:Program) (ts:List TypeId):Bool:=ts.all (v1S P ts)
section
variable {H:Type} {enc:TypeId×Value→H} {P:Program} {w:World} {spare:Nat→Bool} {held:Bool}
def g2i (P:Program) (w:World) (t:TypeId) (cs:List Value) (b:Nat):Prop:=
 ∃l:List CT,RepL (k1V w) [] cs (avs l)∧OneCells cs∧Has P t l∧d1g l≤b
theorem y1L (a b:List CT):avs (a++b)=avs a++avs b:=by simp only[s1d,List.map_append]
theorem v1T {n:Nat} {cs:List Value} (each:∀t cs x,DataW.trod enc P w 0 spare held n t cs=some x→∀{ts:List TypeId},t∈ts→s1g P ts=true→g2i P w t cs (l1U x.1)) {ts:List TypeId} (hts:s1g P ts=true):
  ∀(l:List Field) (o e:Nat) (xs:List (DataW H×List MemPlace)),layF P o l=some e→(∀f∈l,f.type∈ts)→xs.length=l.length→e≤cs.length→
   (∀(i:Nat) f,l[i]? =some f→DataW.trod enc P w 0 spare held n f.type ((cs.drop f.offset).take (P.cellsOf f.type))=xs[i]?)→
   o≤e∧∃r:List CT,RepL (k1V w) [] ((cs.drop o).take (e-o)) (avs r)∧OneCells ((cs.drop o).take (e-o))∧HasF P (l.map (·.type)) r∧d1g r≤n1u (xs.map (·.1)):=by
 intro l
 induction l with
 |nil=>
  intro o e xs hl _ hx he _
  simp only[layF,Option.some.injEq] at hl;subst hl
  refine⟨Nat.le_refl _,[],?_,?_,.nil,Nat.zero_le _⟩
  ·rw[Nat.sub_self,List.take_zero];exact .nil
  ·rw[Nat.sub_self,List.take_zero];intro v hv;cases hv
 |cons f l ih=>
  intro o e xs hl hm hx he hf
  simp only[layF] at hl
  split at hl
  ·rename_i ho
   cases xs with
   |nil=>simp at hx
   |cons x xs=>
    obtain⟨h1,r,r1,r2,r3,r4⟩:=ih (o+P.cellsOf f.type) e xs hl (fun g hg=>hm g (by simp [hg])) (by simpa using hx) he (fun i g hg=>by
     have:=hf (i+1) g (by simpa using hg)
     simpa using this)
    have h0:=hf 0 f rfl
    simp only[List.getElem?_cons_zero] at h0
    obtain⟨a,a1,a2,a3,a4⟩:=each _ _ _ h0 (hm f (by simp)) hts
    rw[ho] at a1 a2
    have hsplit:(cs.drop o).take (e-o)=(cs.drop o).take (P.cellsOf f.type)++(cs.drop (o+P.cellsOf f.type)).take (e-(o+P.cellsOf f.type)):=by
     have e1:e-o=P.cellsOf f.type+(e-(o+P.cellsOf f.type)):=by omega
     rw[e1,List.take_add,List.drop_drop]
    refine⟨by omega,a++r,?_,?_,.cons a3 r3,?_⟩
    ·rw[hsplit,y1L];exact a1.append r1
    ·rw[hsplit]
     intro v hv
     rcases List.mem_append.1 hv with h|h
     ·exact a2 v h
     ·exact r2 v h
    ·rw[u1m]
     simp only[List.map_cons,n1u];omega
  ·cases hl
theorem opens:∀(fuel:Nat) t cs x,DataW.trod enc P w 0 spare held fuel t cs=some x→∀{ts:List TypeId},t∈ts→s1g P ts=true→g2i P w t cs (l1U x.1):=by
 intro fuel
 induction fuel using Nat.strongRecOn with
 |_ fuel ih=>
  intro t cs x h ts ht hts
  have hp:v1S P ts t=true:=List.all_eq_true.1 hts t ht
  unfold v1S at hp
  split at hp
  ·rename_i k hu
   obtain⟨n,rfl,rfl,hw⟩:=DataW.trod_int hu h
   exact⟨[.int k n],.val _ .nil,fun v hv=>by simp at hv;subst hv;rfl,.int hu hw,by simp [d1g,CT.bulk,l1U]⟩
  ·rename_i hu
   obtain⟨b,rfl,rfl⟩:=DataW.trod_bool hu h
   exact⟨[.bool b],.val _ .nil,fun v hv=>by simp at hv;subst hv;rfl,.bool hu,by simp [d1g,CT.bulk,l1U]⟩
  ·rename_i hu
   obtain⟨s,rfl,rfl,hl⟩:=DataW.trod_string hu h
   refine⟨[.str s],.val _ .nil,fun v hv=>by simp at hv;subst hv;rfl,.str hu hl,?_⟩
   simp only[d1g,CT.bulk,l1U,Array.length_toList]
   exact Nat.le_refl _
  ·rename_i e hu
   simp only[Bool.and_eq_true,decide_eq_true_eq,List.contains_iff_mem] at hp
   obtain⟨he,hpos⟩:=hp
   rcases DataW.trod_slice hu h with ⟨rfl,rfl⟩|⟨a,len,cap,elems,rest,n,rfl,rfl,rfl,_,hl,hm,hlen,hel,_,_⟩
   ·exact⟨[.rows (P.cellsOf e) []],.slice0 _ _ .nil,fun v hv=>by simp at hv;subst hv;rfl,.slice hu (Nat.zero_le _) (fun r hr=>by cases hr) (fun r hr=>by cases hr),by simp [d1g,CT.bulk,l1U,c1f]⟩
   ·have h1:OneCells [Value.slice (some a) len cap]:=fun v hv=>by simp at hv;subst hv;rfl
    by_cases h0:len=0
    ·subst h0
     refine⟨[.rows (P.cellsOf e) []],.slice1 a cap _ .no (.inl rfl) .nil,h1,.slice hu (Nat.zero_le _) (fun r hr=>by cases hr) (fun r hr=>by cases hr),?_⟩
     simp only[d1g,CT.bulk,l1U,c1f];omega
    ·have get:∀i,i<len→∃cs y,elems[i]? =some y∧w.cells? 0 (a.add (i*P.cellsOf e)) (P.cellsOf e)=some cs∧DataW.trod enc P w 0 spare held n e cs=some y:=by
      intro i hi
      have hb:=hel i hi
      rw[List.getElem?_eq_getElem (by omega),Option.bind_eq_some_iff] at hb
      obtain⟨cs,hcs,hy⟩:=hb
      exact⟨cs,_,List.getElem?_eq_getElem (by omega),hcs,hy⟩
     have hspot:a.spot=none:=by
      obtain⟨cs,y,_,hcs,_⟩:=get 0 (by omega)
      obtain⟨_,hl2,hc⟩:=World.cells?_some hcs
      have:=hc 0 hpos
      have hlt:0<cs.length:=by omega
      rw[List.getElem?_eq_getElem hlt] at this
      unfold World.cell? at this
      split at this
      ·split at this
       ·cases this
       ·rename_i hs;simpa [Addr.add] using hs
      ·cases this
     obtain⟨b,o,sp⟩:=a
     simp only at hspot;subst hspot
     have rows:∀(k o' i0:Nat),i0+k=len→o'=o+i0*P.cellsOf e→∃(ws:List Value) (l:List (List CT)),l.length=k∧ReadAt (k1V w) b o' ws∧RepL (k1V w) [] ws (avss l).flatten∧(∀r∈l,Has P e r∧r.length=P.cellsOf e)∧c1f l≤n1u ((elems.drop i0).map (·.1)):=by
      intro k
      induction k with
      |zero=>intro o' i0 _ _;exact⟨[],[],rfl,(fun i v h=>by simp at h),.nil,(fun r hr=>by simp at hr),Nat.zero_le _⟩
      |succ k ihk=>
       intro o' i0 hk ho'
       obtain⟨cs,y,hy,hcs,htr⟩:=get i0 (by omega)
       obtain⟨r,r1,r2,r3,r4⟩:=ih n (Nat.lt_succ_self n) e cs y htr he hts
       obtain⟨ws,l,e1,e2,e3,e4,e5⟩:=ihk (o'+P.cellsOf e) (i0+1) (by omega) (by rw[ho',Nat.succ_mul];omega)
       obtain⟨_,hl2,hc⟩:=World.cells?_some hcs
       have hlen2:cs.length=P.cellsOf e:=hl2
       refine⟨cs++ws,r::l,by simp [e1],?_,?_,?_,?_⟩
       ·intro i v hv
        rcases Nat.lt_or_ge i cs.length with hlt|hge
        ·rw[List.getElem?_append_left hlt] at hv
         refine x1p ?_ (r2 v (List.mem_of_getElem? hv))
         have:=hc i (by omega)
         rw[hv,g1K,g1K] at this
         rw[ho'];exact this
        ·rw[List.getElem?_append_right hge] at hv
         have:=e2 (i-cs.length) v hv
         have e:o'+P.cellsOf e+(i-cs.length)=o'+i:=by omega
         rwa [e] at this
       ·simp only[avss,List.flatten_cons]
        exact r1.append e3
       ·intro q hq
        rcases List.mem_cons.1 hq with rfl|hq
        ·refine⟨r3,?_⟩
         have:=r1.length
         rw[s1d,List.length_map] at this
         omega
        ·exact e4 q hq
       ·have hd:elems.drop i0=y::elems.drop (i0+1):=by
         rw[List.drop_eq_getElem_cons (by omega)]
         rw[List.getElem?_eq_getElem (by omega)] at hy
         simp only[Option.some.injEq] at hy
         rw[hy]
        rw[hd]
        simp only[List.map_cons,n1u,c1f];omega
     obtain⟨ws,l,e1,e2,e3,e4,e5⟩:=rows len o 0 (by omega) (by omega)
     have:=RepL.slice (I:=k1V w) (μ:=[]) (vs:=[]) (asq:=[]) b o cap (P.cellsOf e) ws (avss l) .no e2 e3 (fun r hr=>by
      rw[g1J] at hr
      obtain⟨x,hx,rfl⟩:=List.mem_map.1 hr
      rw[s1d,List.length_map]
      exact(e4 x hx).2) (by rw[b1L,e1];exact hl) (fun h=>by cases h) .nil
     rw[b1L,e1] at this
     refine⟨[.rows (P.cellsOf e) l],this,h1,.slice hu (by omega) (fun r hr=>(e4 r hr).1) (fun r hr=>(e4 r hr).2),?_⟩
     simp only[d1g,CT.bulk,l1U,List.drop_zero] at e5⊢
     omega
  ·rename_i fs hu
   simp only[Bool.and_eq_true,beq_iff_eq,List.all_eq_true,List.contains_iff_mem] at hp
   obtain⟨hm,hlay⟩:=hp
   obtain⟨xs,n,rfl,rfl,hl,hxl,hf⟩:=DataW.trod_struct hu h
   obtain⟨_,r,r1,r2,r3,r4⟩:=v1T (fun t cs x h=>ih n (Nat.lt_succ_self n) t cs x h) hts fs.toList 0 (P.cellsOf t) xs hlay hm (by simpa using hxl) (by omega) (fun i f hif=>hf i f (by simpa using hif))
   have e:(cs.drop 0).take (P.cellsOf t-0)=cs:=by rw[List.drop_zero,Nat.sub_zero,List.take_of_length_le (by omega)]
   rw[e] at r1 r2
   refine⟨r,r1,r2,.struct hu r3,?_⟩
   simp only[l1U];omega
  ·cases hp
end
end Go.Eng
end

section
/-
  THE ENGINE, part 30: contracts of functions (of Go's library) that stand in place of their code: plain answers out of plain arguments.
-/
set_option linter.unusedVariables false
set_option linter.unusedSimpArgs false
namespace Go.Eng
open Go.RowKit
abbrev PExt:=FuncId→Option (List AV→Option AV)
def PExt.ext (g:PExt):Ext:=fun f=>(g f).map fun e args H=>(e args).map fun v=>(Out.ret v,H)
structure PSound (P:Program) (I0:Mem) (g:PExt):Prop where
 sound:∀f e,g f=some e→∀args v,e args=some v→∀I μ w cargs,LeM I0 I→ImmOk I w→RepL I μ cargs args→
  Calls P f cargs.toArray w fun e' w'=>∃v',e'=.returned v'∧Rep I μ v' v∧NoOwn v∧Below w.heap.size w w'
 ren:∀f e,g f=some e→∀args v,e args=some v→∀ρ:Nat→Nat,e (args.map (AV.ren ρ))=some (v.ren ρ)
theorem b2z {w w':World} (h:Below w.heap.size w w') (I:Mem) (A:Nat→Prop):Eff I w A I w':=
 ⟨.refl I,fun _ _ _ h=>.inl h,fun b hb _=>h.block b hb,h.size,h.os,h.tape,h.output⟩
theorem b2A {I:Mem} {w w':World} (h:Below w.heap.size w w') (hI:ImmOk I w):ImmOk I w':=by
 intro b o v hv
 have h1:=hI b o v hv
 have hb:=hI.lt hv
 refine⟨?_,h1.2⟩
 have h2:=h1.1
 unfold World.cell? at h2⊢
 rw[h.block b hb];exact h2
theorem PSound.ext {P:Program} {I0:Mem} {g:PExt} (h:PSound P I0 g):r1Q P I0 g.ext:=by
 intro f e he args H out H' heq I μ HV w cargs hI hh hr hs h1
 unfold PExt.ext at he
 rw[Option.map_eq_some_iff] at he
 obtain⟨e0,he0,rfl⟩:=he
 rw[Option.map_eq_some_iff] at heq
 obtain⟨v,hv,heq⟩:=heq
 injection heq with e1 e2
 subst e1 e2
 refine(h.sound f e0 he0 args v hv I μ w cargs hI hh.imm hr).mono ?_
 rintro e' w' ⟨v',rfl,r1,r2,r3⟩
 have heff:=fun A=>b2z r3 I A
 have himm:=b2A r3 hh.imm
 refine⟨I,μ,HV,hh.eff (heff fun _=>False) himm fun _ h=>h.elim,heff _,.refl μ,⟨v',rfl,r1,r2.spare w' v'⟩,fun b=>?_,fun b hb=>?_⟩
 ·have:=h1 b
  simp only[d1d,r2.tc]
  unfold c1E at this
  omega
 ·left
  simp only[d1d,r2.tc] at hb
  unfold c1E
  omega
theorem PSound.extR {P:Program} {I0:Mem} {g:PExt} (h:PSound P I0 g) {ρ:Nat→Nat} {n N:Nat} {F:Heap}:ExtR ρ n N F g.ext:=by
 intro f e he args H out H' heq K hK
 unfold PExt.ext at he
 rw[Option.map_eq_some_iff] at he
 obtain⟨e0,he0,rfl⟩:=he
 rw[Option.map_eq_some_iff] at heq
 obtain⟨v,hv,heq⟩:=heq
 injection heq with e1 e2
 subst e1 e2
 exact⟨K,by simp only[h.ren f e0 he0 args v hv ρ,Option.map_some,g1B],hK⟩
def g1S:List AV→Option AV
 |[.val (.string s),.val (.int .u8 c)]=>if 0≤c∧c<256 then some (.val (.int .i64 (Lib.indexByte s.data.toList c.toNat.toUInt8))) else none
 |_=>none
def e1P (te:TypeId):List AV→Option AV
 |[.val (.string s),.val (.int .i64 10),.val (.int .i64 64)]=>if s.size≤281474976710656 then match Lib.parseIntB 64 s.data.toList with
   | .ok v=>some (.tuple [.val (.int .i64 v),.val .nilIface])
   | .range=>some (.tuple [.val (.int .i64 (Lib.intSat 64 s.data.toList)),.iface te .any])
   |_=>none
  else none
 |_=>none
def j1C:List (List AV)→Option (List ByteArray)
 |[]=>some []
 |[.val (.string s)]::r=>(j1C r).map (s:: ·)
 |_::_=>none
def u1u:List AV→Option AV
 |[.slice _ rows _,.val (.string sep)]=>match j1C rows with
  |some xs=>if xs.length≤140737488355328∧(Lib.join (xs.map (·.data.toList)) sep.data.toList).length≤140737488355328 then
    some (.val (.string ⟨(Lib.join (xs.map (·.data.toList)) sep.data.toList).toArray⟩)) else none
  |none=>none
 |_=>none
theorem m1L (ρ:Nat→Nat):∀{rows:List (List AV)} {xs:List ByteArray},j1C rows=some xs→j1C (k1F ρ rows)=some xs
 |[],xs,h=>h
 |r::rows,xs,h=>by
  unfold j1C at h
  split at h
  ·rename_i e;cases e
  ·rename_i s r' e
   injection e with e1 e2
   subst e1 e2
   rw[Option.map_eq_some_iff] at h
   obtain⟨ys,hy,rfl⟩:=h
   have:=m1L ρ hy
   simp [k1F,rens,AV.ren,j1C,this]
  ·cases h
theorem n1x {I:Mem} {μ:List Nat}:∀{rows:List (List AV)} {xs:List ByteArray} {ws:List Value},j1C rows=some xs→RepL I μ ws rows.flatten→ws=xs.map .string∧rows.length=xs.length
 |[],xs,ws,h,hr=>by
  simp [j1C] at h;subst h
  cases hr;exact⟨rfl,rfl⟩
 |r::rows,xs,ws,h,hr=>by
  unfold j1C at h
  split at h
  ·rename_i e;cases e
  ·rename_i s r' e
   injection e with e1 e2
   subst e1 e2
   rw[Option.map_eq_some_iff] at h
   obtain⟨ys,hy,rfl⟩:=h
   cases ws with
   |nil=>cases hr
   |cons w ws=>
    simp only[List.flatten_cons,List.cons_append,List.nil_append] at hr
    obtain⟨h1,h2⟩:=hr.uncons
    obtain⟨q1,q2⟩:=n1x hy h2
    cases h1
    exact⟨by simp [q1],by simp [q2]⟩
  ·cases h
end Go.Eng
end

section
open Go Go.Eng
namespace Go.Proofs
noncomputable abbrev Pg:Program:=Tryz.prog
def cfgL:List FCfg:=[⟨0,0,0,0,[],false,false⟩,
 ⟨0,0,0,0,[],false,false⟩,
 ⟨0,0,0,0,[],false,false⟩,
 ⟨0,72,0,0,[],false,false⟩,
 ⟨0,72,0,0,[],false,false⟩,
 ⟨0,584,0,0,[(1000004,9)],false,false⟩,
 ⟨0,2336,0,0,[(1000005,291)],false,false⟩,
 ⟨0,72,0,0,[],false,false⟩,
 ⟨0,1152,0,0,[(1000005,65)],false,false⟩,
 ⟨0,4,0,0,[],false,false⟩,
 ⟨0,260,0,0,[(1000008,452)],false,false⟩,
 ⟨12,0,0,0,[],false,false⟩,
 ⟨0,146,0,0,[],false,false⟩,
 ⟨0,4,0,0,[],false,false⟩,
 ⟨0,260,0,0,[(1000008,452)],false,false⟩,
 ⟨12,0,0,0,[],false,false⟩,
 ⟨0,4,0,0,[],false,false⟩,
 ⟨0,260,0,0,[(1000008,452)],false,false⟩,
 ⟨12,0,0,0,[],false,false⟩,
 ⟨0,512,35184372088864,0,[(0,97),(1000013,1697)],false,false⟩,
 ⟨0,32,4104,0,[(0,456)],false,false⟩,
 ⟨0,8768,0,0,[],false,false⟩,
 ⟨0,4,0,0,[],false,false⟩,
 ⟨2,0,0,0,[],false,false⟩,
 ⟨0,0,0,0,[],false,false⟩,
 ⟨0,12,0,0,[],false,false⟩,
 ⟨0,0,0,0,[],false,false⟩,
 ⟨2,0,0,0,[],false,false⟩,
 ⟨0,192,0,0,[(0,35),(1000009,227)],false,false⟩,
 ⟨0,8768,0,0,[],false,false⟩,
 ⟨0,4,0,0,[],false,false⟩,
 ⟨2,0,0,0,[],false,false⟩,
 ⟨0,12,0,0,[(1000004,13)],false,false⟩,
 ⟨2,0,0,0,[],false,false⟩,
 ⟨0,192,0,0,[(0,35),(1000009,227)],false,false⟩,
 ⟨0,8768,0,0,[],false,false⟩,
 ⟨0,4,0,0,[],false,false⟩,
 ⟨2,0,0,0,[],false,false⟩,
 ⟨0,12,0,0,[],false,false⟩,
 ⟨2,0,0,0,[],false,false⟩,
 ⟨0,192,0,0,[(0,35),(1000009,227)],false,false⟩,
 ⟨0,0,0,0,[(0,3)],false,false⟩,
 ⟨0,80,0,0,[(1,135399691796838467567091731),(1000015,1043),(1000018,19)],false,false⟩,
 ⟨0,0,0,0,[(1,3848290697251),(3,64563604257983430914),(1000010,35),(1000011,35),(1000016,3848290697379)],false,false⟩,
 ⟨0,0,0,0,[],false,false⟩,
 ⟨0,0,0,0,[],false,false⟩,
 ⟨4,0,0,0,[(1000005,22)],false,false⟩,
 ⟨0,60,0,0,[],false,false⟩,
 ⟨0,0,0,0,[],false,false⟩,
 ⟨4,0,0,0,[],false,false⟩,
 ⟨0,0,0,0,[],false,false⟩,
 ⟨2,0,0,0,[(1000002,2),(1000005,2),(1000006,2),(1000007,2),(1000011,30),(1000012,2),(1000013,2),(1000016,2),(1000018,2)],false,false⟩,
 ⟨0,256,549755813920,0,[(0,225)],false,false⟩,
 ⟨0,60,0,0,[],false,false⟩,
 ⟨0,0,0,0,[],false,false⟩,
 ⟨0,0,0,0,[(0,25)],false,false⟩,
 ⟨2,0,0,0,[(1000007,2)],false,false⟩,
 ⟨0,0,0,0,[(0,35)],false,false⟩,
 ⟨0,192,0,0,[(0,35),(1000009,227)],false,false⟩,
 ⟨4,0,0,0,[(1000005,22)],false,false⟩,
 ⟨0,12,0,0,[],false,false⟩,
 ⟨4,0,0,0,[],false,false⟩,
 ⟨0,0,0,0,[],false,false⟩,
 ⟨2,0,0,0,[(1000002,2),(1000003,2),(1000006,2),(1000008,2)],false,false⟩,
 ⟨0,12,0,0,[(0,13)],false,false⟩,
 ⟨0,0,0,0,[],false,false⟩,
 ⟨0,0,0,0,[(0,25)],false,false⟩,
 ⟨2,0,0,0,[(1000005,2),(1000011,2),(1000016,2)],false,false⟩,
 ⟨4,0,0,0,[(1000005,22)],false,false⟩,
 ⟨0,36,0,0,[],false,false⟩,
 ⟨4,0,0,0,[],false,false⟩,
 ⟨0,0,0,0,[],false,false⟩,
 ⟨2,0,0,0,[(1000002,2),(1000003,2),(1000009,2),(1000011,2)],false,false⟩,
 ⟨0,12,0,0,[],false,false⟩,
 ⟨0,0,0,0,[(0,25)],false,false⟩,
 ⟨2,0,0,0,[(1000009,2)],false,false⟩,
 ⟨0,12,0,0,[(1000003,13),(1000004,13),(1000006,13),(1000011,13),(1000012,13)],false,false⟩,
 ⟨0,0,0,0,[],false,false⟩,
 ⟨0,0,0,0,[(0,35)],false,false⟩,
 ⟨0,320,0,0,[(1000006,320)],false,false⟩,
 ⟨0,0,0,0,[(0,7)],false,false⟩,
 ⟨2,0,0,0,[],false,false⟩,
 ⟨0,0,0,0,[],false,false⟩,
 ⟨2,0,0,0,[],false,false⟩,
 ⟨0,0,0,0,[],false,false⟩,
 ⟨0,0,0,0,[(1000003,3)],false,false⟩,
 ⟨0,0,4096,0,[],false,false⟩,
 ⟨0,0,0,0,[],false,false⟩,
 ⟨0,24,0,0,[],false,false⟩,
 ⟨0,0,0,0,[],false,false⟩,
 ⟨8,0,0,0,[],false,false⟩,
 ⟨0,240,0,0,[(0,243),(2,50332147)],false,false⟩,
 ⟨0,0,0,0,[],false,false⟩,
 ⟨0,32,0,0,[(0,450)],false,false⟩,
 ⟨4,0,0,0,[],false,false⟩,
 ⟨4,0,0,0,[],false,false⟩,
 ⟨0,0,0,0,[],false,false⟩,
 ⟨4,0,0,0,[],false,false⟩,
 ⟨0,0,0,0,[],false,false⟩,
 ⟨0,0,0,0,[],false,false⟩,
 ⟨0,32,0,0,[(0,450)],false,false⟩,
 ⟨2,0,0,0,[],false,false⟩,
 ⟨0,0,0,0,[],false,false⟩,
 ⟨0,0,0,0,[],false,false⟩,
 ⟨0,32,0,0,[(0,450)],false,false⟩,
 ⟨2,252,0,0,[(1000002,2),(1000019,510),(1000029,514)],false,false⟩,
 ⟨0,32,0,0,[(0,450)],false,false⟩,
 ⟨0,0,0,0,[(0,3)],false,false⟩,
 ⟨0,80,0,0,[(1,211),(1000010,211),(1000015,83),(1000027,211)],false,false⟩,
 ⟨0,0,0,0,[],false,false⟩,
 ⟨0,12,0,0,[],false,false⟩,
 ⟨0,0,0,0,[],false,false⟩,
 ⟨0,0,0,0,[(0,25)],false,false⟩,
 ⟨2,0,0,0,[(1000002,10),(1000004,2),(1000006,2)],false,false⟩,
 ⟨0,0,0,0,[],false,false⟩,
 ⟨0,0,0,0,[(0,9)],false,false⟩,
 ⟨0,0,0,0,[(0,9)],false,false⟩,
 ⟨0,0,0,0,[(0,9)],false,false⟩,
 ⟨0,0,0,0,[(0,9)],false,false⟩,
 ⟨0,192,0,0,[(0,35)],false,false⟩,
 ⟨0,192,0,0,[(0,35),(1000009,227)],false,false⟩,
 ⟨0,192,0,0,[(0,35),(1000009,227)],false,false⟩,
 ⟨0,24,0,0,[],false,false⟩,
 ⟨0,12,0,0,[(0,13)],false,false⟩,
 ⟨4,0,0,0,[],false,false⟩,
 ⟨0,0,0,0,[],false,false⟩,
 ⟨0,0,0,0,[(0,786433),(1000003,1)],false,false⟩,
 ⟨0,0,0,0,[],false,false⟩,
 ⟨0,0,0,0,[],false,false⟩,
 ⟨0,12,0,0,[(1000004,5)],false,false⟩,
 ⟨0,32,0,0,[],false,false⟩,
 ⟨0,0,0,0,[(0,9),(1000003,1)],false,false⟩,
 ⟨0,0,0,0,[],false,false⟩,
 ⟨0,24,0,0,[],false,false⟩,
 ⟨0,32,0,0,[],false,false⟩,
 ⟨0,68,0,0,[(1000022,69)],false,false⟩,
 ⟨0,0,536871424,0,[(0,775),(1000006,1799),(1000010,1799)],false,false⟩,
 ⟨0,0,0,0,[],false,false⟩,
 ⟨4,0,0,0,[],false,false⟩,
 ⟨0,0,0,0,[],false,false⟩,
 ⟨0,0,0,0,[],false,false⟩,
 ⟨0,32,0,0,[],false,false⟩,
 ⟨0,12,0,0,[(1000022,13)],false,false⟩,
 ⟨0,0,16,0,[],false,false⟩,
 ⟨0,0,0,0,[],false,false⟩,
 ⟨2,0,0,0,[(1000003,2)],false,false⟩,
 ⟨0,0,0,0,[],false,false⟩,
 ⟨0,0,0,0,[],false,false⟩,
 ⟨2,0,0,0,[],false,false⟩,
 ⟨0,0,0,0,[],false,false⟩,
 ⟨0,0,0,0,[(1000010,263),(1000014,772),(1000016,772),(1000019,1792),(1000021,768)],false,false⟩,
 ⟨0,0,0,0,[],false,false⟩,
 ⟨0,0,0,0,[(1,897),(3,4993),(5,50049),(7,115585),(9,47890485652059026823698344598447161988085597568237568),(1000011,897)],false,false⟩,
 ⟨0,0,0,0,[],false,false⟩,
 ⟨0,0,134217744,0,[],false,false⟩,
 ⟨0,32,0,0,[],false,false⟩,
 ⟨4,0,0,0,[(1000005,22)],false,false⟩,
 ⟨0,0,0,0,[],false,false⟩,
 ⟨0,0,0,0,[],false,false⟩,
 ⟨0,0,0,0,[],false,false⟩,
 ⟨0,12,0,0,[(0,13)],false,false⟩,
 ⟨0,12,0,0,[],false,false⟩,
 ⟨0,0,0,0,[],false,false⟩,
 ⟨0,0,0,0,[],false,false⟩,
 ⟨4,0,0,0,[],false,false⟩,
 ⟨0,0,0,0,[],false,false⟩,
 ⟨4,0,0,0,[],false,false⟩,
 ⟨4,0,0,0,[],false,false⟩,
 ⟨4,0,0,0,[],false,false⟩,
 ⟨0,0,0,0,[(1,114689)],false,false⟩,
 ⟨0,0,0,0,[],false,false⟩,
 ⟨0,0,0,0,[],false,false⟩,
 ⟨0,0,0,0,[],false,false⟩,
 ⟨0,0,0,0,[],false,false⟩,
 ⟨0,0,0,0,[(0,450)],false,false⟩,
 ⟨0,32,0,0,[(0,450)],false,false⟩,
 ⟨2,0,0,0,[],false,false⟩,
 ⟨0,32,0,0,[(0,450)],false,false⟩,
 ⟨2,0,0,0,[(1000002,2),(1000003,6),(1000011,30),(1000012,6),(1000014,2)],false,false⟩,
 ⟨0,32,0,0,[(0,450)],false,false⟩,
 ⟨2,0,0,0,[(1000002,2),(1000005,6),(1000006,2),(1000008,2),(1000010,2)],false,false⟩,
 ⟨0,0,0,0,[],false,false⟩,
 ⟨0,0,0,0,[],false,false⟩,
 ⟨0,0,0,0,[(0,35)],false,false⟩,
 ⟨0,0,0,0,[],false,false⟩,
 ⟨0,0,0,0,[],false,false⟩,
 ⟨0,0,0,0,[(0,7)],false,false⟩,
 ⟨0,0,0,0,[],false,false⟩,
 ⟨0,0,0,0,[],false,false⟩,
 ⟨0,0,0,0,[(0,49)],false,false⟩,
 ⟨0,0,0,0,[(0,99),(1000003,3)],false,false⟩,
 ⟨0,0,0,0,[],false,false⟩,
 ⟨0,12,0,0,[(0,13),(1000006,29)],false,false⟩,
 ⟨48,64,0,0,[],false,false⟩,
 ⟨0,0,0,0,[(0,25)],false,false⟩,
 ⟨0,0,0,0,[(0,25)],false,false⟩,
 ⟨0,0,0,0,[(0,25)],false,false⟩,
 ⟨0,0,0,0,[(0,9)],false,false⟩,
 ⟨0,0,0,0,[(0,9)],false,false⟩,
 ⟨2,0,0,0,[(0,34),(1000004,10)],false,false⟩,
 ⟨0,192,0,0,[(0,35),(1000009,227)],false,false⟩,
 ⟨0,36,0,0,[(0,453)],false,false⟩,
 ⟨0,0,0,0,[],false,false⟩,
 ⟨0,0,0,0,[],false,false⟩,
 ⟨0,4,0,0,[(1000003,5)],false,false⟩,
 ⟨0,0,0,0,[],false,false⟩,
 ⟨0,0,0,0,[],false,false⟩,
 ⟨0,4,0,0,[(1000003,5)],false,false⟩,
 ⟨0,0,0,0,[],false,false⟩,
 ⟨0,0,0,0,[(0,3145729),(1000003,1)],false,false⟩,
 ⟨0,0,0,0,[],false,false⟩,
 ⟨0,0,36028797019095088,0,[(0,99),(1000011,97)],false,false⟩,
 ⟨0,0,0,0,[(0,9),(1000003,1)],false,false⟩,
 ⟨0,0,0,0,[],false,false⟩,
 ⟨0,0,0,0,[(3,4436777100798802905238461234946),(1000021,775),(1000025,775),(1000032,1799),(1000046,4436777100798802905238461300482)],false,false⟩,
 ⟨0,0,0,0,[],false,false⟩,
 ⟨0,0,0,0,[],false,false⟩,
 ⟨0,0,0,0,[],false,false⟩,
 ⟨0,0,0,0,[],false,false⟩,
 ⟨0,0,0,0,[],false,false⟩,
 ⟨0,0,0,0,[],false,false⟩,
 ⟨0,0,0,0,[],false,false⟩,
 ⟨0,0,0,0,[],false,false⟩,
 ⟨0,0,0,0,[],false,false⟩,
 ⟨0,0,0,0,[],false,false⟩,
 ⟨0,8,0,0,[],false,false⟩,
 ⟨0,148,549755813888,0,[(1,21),(1000025,5),(1000033,133)],false,false⟩,
 ⟨4,0,0,0,[],false,false⟩,
 ⟨0,0,0,0,[],false,false⟩,
 ⟨4,0,0,0,[],false,false⟩,
 ⟨0,0,0,0,[],false,false⟩,
 ⟨4,0,0,0,[],false,false⟩,
 ⟨0,0,0,0,[],false,false⟩,
 ⟨0,32,0,0,[(0,450)],false,false⟩,
 ⟨4,0,0,0,[],false,false⟩,
 ⟨0,0,0,0,[],false,false⟩,
 ⟨0,0,0,0,[],false,false⟩,
 ⟨2,0,0,0,[(1000002,2),(1000011,2),(1000014,2)],false,false⟩,
 ⟨0,0,0,0,[(0,35)],false,false⟩,
 ⟨0,0,1,0,[],false,false⟩,
 ⟨0,12,0,0,[(0,13),(1000006,29)],false,false⟩,
 ⟨0,0,0,0,[(0,25)],false,false⟩,
 ⟨2,8,0,0,[],false,false⟩,
 ⟨0,0,0,0,[(0,9)],false,false⟩,
 ⟨0,0,0,0,[(0,9)],false,false⟩,
 ⟨0,0,0,0,[(0,9)],false,false⟩,
 ⟨8,0,0,0,[],false,false⟩,
 ⟨8,0,16,0,[],false,false⟩,
 ⟨0,0,0,0,[],false,false⟩,
 ⟨0,0,0,0,[],false,false⟩,
 ⟨0,0,0,0,[],false,false⟩,
 ⟨0,0,0,0,[],false,false⟩,
 ⟨0,0,0,0,[(0,57),(1000005,25),(1000014,57)],false,false⟩,
 ⟨0,0,0,0,[],false,false⟩,
 ⟨0,0,0,0,[],false,false⟩,
 ⟨0,0,0,0,[],false,false⟩,
 ⟨0,0,0,0,[],false,false⟩,
 ⟨0,4,0,0,[],false,false⟩,
 ⟨0,12,4202496,0,[(0,13)],false,false⟩,
 ⟨0,12,0,0,[(0,13)],false,false⟩,
 ⟨2,4,0,0,[],false,false⟩,
 ⟨2,0,0,0,[(1000007,2)],false,false⟩,
 ⟨2,0,0,0,[(0,18),(1000007,2)],false,false⟩,
 ⟨4,0,0,0,[(1000005,22)],false,false⟩,
 ⟨0,16,0,0,[(1000003,1)],false,false⟩,
 ⟨4,0,33554432,0,[(1000005,22)],false,false⟩,
 ⟨0,0,8,0,[],false,false⟩,
 ⟨0,0,0,0,[],false,false⟩,
 ⟨0,0,0,0,[],false,false⟩,
 ⟨4,0,0,0,[(1000005,22)],false,false⟩,
 ⟨0,52,536870912,0,[(0,37),(2000004,1),(2000010,1)],false,false⟩,
 ⟨0,76,33554432,0,[(1,13),(1000025,5),(1000033,69)],false,false⟩,
 ⟨0,0,0,0,[],false,false⟩,
 ⟨2,0,0,0,[(1000002,10),(1000004,2)],false,false⟩,
 ⟨2,0,0,0,[],false,false⟩,
 ⟨2,8,0,0,[(1000012,18)],false,false⟩,
 ⟨0,8,0,0,[],false,false⟩,
 ⟨0,8,524304,0,[],false,false⟩,
 ⟨0,0,0,0,[(1000004,1),(1000008,97)],false,false⟩,
 ⟨0,24,0,0,[],false,false⟩,
 ⟨0,0,0,0,[(1000002,3)],false,false⟩,
 ⟨0,12,1048576,0,[(0,13),(1000011,13),(1000013,13)],false,false⟩,
 ⟨0,12,134479872,0,[(0,13)],false,false⟩,
 ⟨0,0,0,0,[],false,false⟩,
 ⟨0,0,0,0,[],false,false⟩,
 ⟨0,0,0,0,[],false,false⟩,
 ⟨0,0,0,0,[(0,19),(1000020,4113),(1000025,4113)],false,false⟩,
 ⟨0,0,39614081257132168796771975168,1,[(0,130075),(2,146459),(1000003,3103),(1000007,15391),(1000025,15385),(1000028,15377)],false,false⟩,
 ⟨0,0,0,0,[],false,false⟩,
 ⟨0,0,0,0,[(1000004,5),(1000007,5),(1000010,5)],false,false⟩,
 ⟨0,0,0,0,[],false,false⟩,
 ⟨0,0,0,0,[],false,false⟩,
 ⟨0,0,0,0,[],false,false⟩,
 ⟨0,0,0,0,[],false,false⟩,
 ⟨0,0,0,0,[],false,false⟩,
 ⟨0,0,0,0,[],false,false⟩,
 ⟨0,0,0,0,[],false,false⟩,
 ⟨0,0,0,0,[],false,false⟩,
 ⟨0,0,0,0,[],false,false⟩,
 ⟨0,0,0,0,[],false,false⟩,
 ⟨0,0,0,0,[],false,false⟩,
 ⟨0,0,0,0,[],false,false⟩,
 ⟨0,0,0,0,[],false,false⟩,
 ⟨0,0,0,0,[],false,false⟩,
 ⟨0,0,0,0,[],false,false⟩,
 ⟨0,0,0,0,[],false,false⟩,
 ⟨0,0,0,0,[],false,false⟩,
 ⟨0,0,0,0,[],false,false⟩,
 ⟨0,0,0,0,[],false,false⟩,
 ⟨0,0,0,0,[],false,false⟩,
 ⟨0,0,0,0,[],false,false⟩,
 ⟨0,0,0,0,[],false,false⟩,
 ⟨0,0,0,0,[],false,false⟩,
 ⟨0,0,0,0,[],false,false⟩,
 ⟨0,0,0,0,[],false,false⟩,
 ⟨0,0,0,0,[],false,false⟩,
 ⟨0,0,0,0,[],false,false⟩,
 ⟨0,0,0,0,[],false,false⟩,
 ⟨0,0,0,0,[],false,false⟩,
 ⟨0,0,0,0,[],false,false⟩,
 ⟨0,0,0,0,[],false,false⟩,
 ⟨0,0,0,0,[],false,false⟩,
 ⟨0,0,0,0,[],false,false⟩,
 ⟨0,0,0,0,[],false,false⟩]
abbrev c1I:Nat:=8
abbrev b1p:Nat:=9
abbrev e1c:Nat:=10
abbrev b1N:Nat:=11
abbrev b1P:Nat:=12
abbrev c1j:Nat:=13
abbrev e1w:Nat:=14
abbrev d1Q:Nat:=15
abbrev e1x:Nat:=16
abbrev e1d:Nat:=17
abbrev d1u:Nat:=18
abbrev c1N:Nat:=19
abbrev f1i:Nat:=20
abbrev i1p:Nat:=21
abbrev a1i:Nat:=22
abbrev b1E:Nat:=23
abbrev n1b:Nat:=24
abbrev c1q:Nat:=25
abbrev d1i:Nat:=27
abbrev a1E:Nat:=28
abbrev i1E:Nat:=29
abbrev a1o:Nat:=30
abbrev b1W:Nat:=31
abbrev c1x:Nat:=32
abbrev d1v:Nat:=33
abbrev a1Q:Nat:=34
abbrev i1q:Nat:=35
abbrev a1H:Nat:=36
abbrev f1B:Nat:=37
abbrev c1r:Nat:=38
abbrev d1j:Nat:=39
abbrev a1X:Nat:=40
abbrev d1R:Nat:=41
abbrev g1t:Nat:=42
abbrev e1l:Nat:=43
abbrev o1c:Nat:=44
abbrev h1o:Nat:=46
abbrev a1L:Nat:=47
abbrev b1h:Nat:=49
abbrev b1c:Nat:=51
abbrev c1L:Nat:=52
abbrev d1S:Nat:=53
abbrev f1H:Nat:=55
abbrev j1E:Nat:=56
abbrev a1R:Nat:=57
abbrev b1z:Nat:=58
abbrev h1z:Nat:=59
abbrev b1l:Nat:=60
abbrev a1M:Nat:=61
abbrev a1F:Nat:=63
abbrev c1Z:Nat:=64
abbrev f1j:Nat:=65
abbrev g1u:Nat:=66
abbrev k1l:Nat:=67
abbrev h1p:Nat:=68
abbrev b1i:Nat:=69
abbrev b1Q:Nat:=70
abbrev b1n:Nat:=72
abbrev d1T:Nat:=73
abbrev f1I:Nat:=74
abbrev j1F:Nat:=75
abbrev c1P:Nat:=76
abbrev b1q:Nat:=77
abbrev f1k:Nat:=78
abbrev g1a:Nat:=79
abbrev e1Q:Nat:=80
abbrev g1b:Nat:=81
abbrev c1J:Nat:=82
abbrev g1c:Nat:=83
abbrev c1y:Nat:=84
abbrev a1g:Nat:=89
abbrev a1f:Nat:=90
abbrev a1k:Nat:=91
abbrev m1p:Nat:=92
abbrev a1N:Nat:=93
abbrev c1v:Nat:=94
abbrev b1R:Nat:=97
abbrev a1b:Nat:=98
abbrev f1l:Nat:=99
abbrev a1x:Nat:=100
abbrev b1s:Nat:=101
abbrev c1k:Nat:=102
abbrev b1J:Nat:=103
abbrev a1S:Nat:=104
abbrev b1x:Nat:=105
abbrev a1m:Nat:=106
abbrev i1F:Nat:=107
abbrev i1G:Nat:=108
abbrev f1m:Nat:=109
abbrev d1U:Nat:=110
abbrev f1J:Nat:=112
abbrev i1H:Nat:=114
abbrev i1I:Nat:=115
abbrev i1J:Nat:=116
abbrev i1K:Nat:=117
abbrev j1G:Nat:=118
abbrev d1k:Nat:=119
abbrev d1l:Nat:=120
abbrev d1m:Nat:=121
abbrev b1m:Nat:=123
abbrev c1C:Nat:=124
abbrev d1V:Nat:=126
abbrev g1v:Nat:=128
abbrev d1a:Nat:=129
abbrev f1K:Nat:=130
abbrev h1U:Nat:=131
abbrev j1H:Nat:=132
abbrev a1l:Nat:=134
abbrev b1A:Nat:=135
abbrev a1C:Nat:=136
abbrev c1d:Nat:=137
abbrev e1J:Nat:=138
abbrev a1G:Nat:=140
abbrev f1n:Nat:=141
abbrev c1W:Nat:=142
abbrev d1C:Nat:=143
abbrev e1e:Nat:=144
abbrev i1L:Nat:=146
abbrev f1o:Nat:=148
abbrev b1X:Nat:=149
abbrev a1r:Nat:=155
abbrev i1M:Nat:=156
abbrev e1R:Nat:=157
abbrev b1r:Nat:=160
abbrev e1K:Nat:=164
abbrev c1s:Nat:=166
abbrev c1t:Nat:=167
abbrev b1S:Nat:=168
abbrev c1Q:Nat:=169
abbrev e1D:Nat:=170
abbrev e1E:Nat:=171
abbrev b1O:Nat:=172
abbrev a1A:Nat:=173
abbrev b1b:Nat:=174
abbrev a1O:Nat:=175
abbrev b1y:Nat:=176
abbrev a1P:Nat:=177
abbrev b1t:Nat:=178
abbrev a1w:Nat:=179
abbrev a1Y:Nat:=180
abbrev h1V:Nat:=181
abbrev j1I:Nat:=182
abbrev h1q:Nat:=183
abbrev j1J:Nat:=184
abbrev i1N:Nat:=185
abbrev j1K:Nat:=186
abbrev d1n:Nat:=187
abbrev h1W:Nat:=188
abbrev h1r:Nat:=189
abbrev i1O:Nat:=190
abbrev d1W:Nat:=192
abbrev f1L:Nat:=194
abbrev f1M:Nat:=195
abbrev f1N:Nat:=196
abbrev i1P:Nat:=198
abbrev j1L:Nat:=199
abbrev f1O:Nat:=200
abbrev b1j:Nat:=201
abbrev d1X:Nat:=202
abbrev e1F:Nat:=203
abbrev j1M:Nat:=205
abbrev h1X:Nat:=206
abbrev b1Z:Nat:=209
abbrev d1D:Nat:=211
abbrev h1Y:Nat:=212
abbrev h1Z:Nat:=213
abbrev l1q:Nat:=219
abbrev a1v:Nat:=226
abbrev e1L:Nat:=227
abbrev e1M:Nat:=229
abbrev e1N:Nat:=231
abbrev a1K:Nat:=233
abbrev b1u:Nat:=234
abbrev d1L:Nat:=236
abbrev b1F:Nat:=237
abbrev e1W:Nat:=238
abbrev d1E:Nat:=240
abbrev f1C:Nat:=241
abbrev i1Q:Nat:=243
abbrev i1R:Nat:=244
abbrev i1S:Nat:=245
abbrev a1y:Nat:=246
abbrev b1B:Nat:=247
abbrev f1p:Nat:=248
abbrev e1G:Nat:=249
abbrev i1T:Nat:=250
abbrev b1a:Nat:=257
abbrev a1T:Nat:=258
abbrev d1Y:Nat:=259
abbrev j1N:Nat:=261
abbrev j1O:Nat:=262
abbrev h1A:Nat:=263
abbrev d1b:Nat:=264
abbrev h1s:Nat:=265
abbrev e1S:Nat:=266
abbrev h1t:Nat:=269
abbrev a1B:Nat:=270
abbrev d1F:Nat:=271
abbrev e1H:Nat:=272
abbrev i1U:Nat:=275
abbrev d1Z:Nat:=281
abbrev d1r:Nat:=282
abbrev d1c:Nat:=283
abbrev s1S:Nat:=2
abbrev n1c:Nat:=3
abbrev b1T:Nat:=9
abbrev y_s_string:Nat:=22
abbrev y_s_api_Pat:Nat:=23
abbrev y_s_api_Exp:Nat:=24
abbrev y_s_api_Dec:Nat:=25
abbrev y_s_api_Ty:Nat:=26
abbrev c1z:Nat:=28
abbrev c1e:Nat:=36
abbrev c1A:Nat:=42
abbrev e1y:Nat:=74
abbrev a1p:Nat:=127
abbrev y_s_api_Con:Nat:=138
abbrev y_s_api_Mod:Nat:=139
abbrev y_s_api_Sig:Nat:=140
abbrev c1u:Nat:=142
abbrev a1a:Nat:=180
abbrev e1f:Nat:=189
abbrev e1g:Nat:=193
abbrev n1Q:Nat:=196
abbrev d1o:Nat:=198
abbrev c1b:Nat:=222
abbrev d1G:Nat:=234
noncomputable def rs0:TypeId→List KSh:=rowSh Pg
def extL:List (Nat×(List AV→Option AV)):=[(l1q,g1S),
 (c1J,e1P c1b),
 (e1l,u1u)]
def gx:PExt:=fun f=>extL.lookup f
def d2q:Nat:=(extL.map fun p=>2^p.1).foldl (· ||| ·) 0
def i2c:Nat:=0|||2^c1N|||2^c1L|||2^b1B|||2^a1C|||2^a1o|||2^a1H|||2^a1i|||2^b1a|||2^b1l|||2^b1m|||2^b1j|||2^b1i|||2^b1A|||2^a1L|||2^a1T|||2^a1B|||2^a1k|||2^b1r|||2^a1v|||2^d1C|||2^d1D|||2^d1c|||2^c1x|||2^c1Z|||2^d1a|||2^c1r|||2^d1T|||2^c1W|||2^c1q|||2^d1S|||2^d1r|||2^d1Z|||2^d1U|||2^d1W|||2^d1E|||2^d1Y|||2^d1F|||2^c1j|||2^e1x|||2^b1p|||2^e1w|||2^e1d|||2^e1c
def cfg0:FuncId→FCfg:=fun f=>{cfgL.getD f default with ext:=d2q.testBit f,norm:=i2c.testBit f}
theorem hx0:∀f,(cfg0 f).ext=false→gx.ext f=none:=by
 have key:(extL.all fun p=>d2q.testBit p.1)=true:=by kernel_rfl
 intro f h
 have h1:d2q.testBit f=false:=h
 have h2:gx f=none:=by
  cases hg:gx f with
  |none=>rfl
  |some e=>
   have:(f,e)∈extL:=List.lookup_eq_some_iff.1 hg |>.elim fun l ⟨r,h,_⟩=>by rw[h];simp
   have:=List.all_eq_true.1 key _ this
   simp only at this
   rw[h1] at this;cases this
 unfold PExt.ext;rw[h2];rfl
noncomputable abbrev evp:CallF:=ev Pg cfg0 gx.ext
noncomputable def shL0:List (Nat×KM):=[(a1M,.con (some (.arg 0)) none true),
 (b1Q,.con (some (.arg 0)) none true),
 (b1h,.con (some (.arg 0)) none true),
 (c1s,.con (some (.arg 0)) none true),
 (b1R,.con (some (.arg 0)) none true),
 (c1t,.con (some (.arg 0)) none true),
 (b1S,.con (some (.arg 0)) none true),
 (a1K,.con (some (.tup [])) none true)]
noncomputable def sh0:FuncId→KM:=fun f=>match shL0.lookup f with
 |some k=>k
 |none=>.inl false
@[irreducible] noncomputable def kc0:KC:=k1a Pg cfg0 rs0 sh0 12
@[irreducible] noncomputable def kt0 (f:FuncId) (args:List AV) (H:Heap):KT:=u1f Pg cfg0 rs0 sh0 12 false f args .none H
theorem hkc0 {QD:List (St→Prop)} {QR:CRes→Prop}:KCS Pg cfg0 evp QD QR kc0:=by
 delta kc0
 exact f1c (d1f hx0) 12 _
theorem k1P {f:FuncId} {args:List AV} {H:Heap} {r:CRes} (h:(kt0 f args H).wp Pg cfg0 evp [] (fun x=>x=r)):evp f args .none H=some r:=by
 delta kt0 at h
 obtain⟨x,h1,rfl⟩:=d1P (d1f hx0) h
 exact h1
theorem q1S {σ:Type} {t:KT} {QD:List (St→Prop)} {QR:CRes→Prop} (S:σ→St) (Inv:σ→Prop) (m:σ→Nat) (a0:σ) (h0:t.atLoop=some (S a0)) (hi:Inv a0)
  (hr:∀a,Inv a→(t.round Pg cfg0 rs0 kc0 (S a)).wp Pg cfg0 evp ((fun s=>∃a',(Inv a'∧m a'<m a)∧s=S a')::QD) QR):t.wp Pg cfg0 evp QD QR:=
 m1J (rs:=rs0) (kc:=kc0) S Inv m a0 (fun _=>hkc0) h0 hi hr
noncomputable def shL2:List (Nat×KM):=[(d1X,.con (some (a1s Pg d1X)) none false),
 (d1L,.con (some (a1s Pg d1L)) none false),
 (e1F,.con (some (a1s Pg e1F)) none false),
 (b1Z,.con (some (a1s Pg b1Z)) none false),
 (d1V,.con (some (a1s Pg d1V)) none false),
 (c1Q,.con (some (a1s Pg c1Q)) none false),
 (b1X,.con (some (a1s Pg b1X)) none false),
 (e1D,.con (some (a1s Pg e1D)) none false),
 (e1E,.con (some (a1s Pg e1E)) none false),
 (a1G,.con (some (a1s Pg a1G)) (some (a1a,.int .i64)) false),
 (a1A,.con (some (a1s Pg a1A)) (some (a1a,.int .i64)) false),
 (c1k,.con (some (a1s Pg c1k)) (some (a1a,.int .i64)) false),
 (b1J,.con (some (a1s Pg b1J)) (some (a1a,.int .i64)) false),
 (a1b,.con (some (a1s Pg a1b)) (some (a1a,.int .i64)) false),
 (b1O,.con (some (a1s Pg b1O)) (some (a1a,.int .i64)) false),
 (g1v,.con (some (a1s Pg g1v)) none false),
 (f1l,.con (some (a1s Pg f1l)) none false),
 (b1b,.con (some (a1s Pg b1b)) (some (a1a,.int .i64)) false),
 (a1m,.con (some (a1s Pg a1m)) (some (a1a,.int .i64)) false),
 (a1S,.con (some (a1s Pg a1S)) (some (a1a,.int .i64)) false),
 (a1N,.con (some (a1s Pg a1N)) (some (a1a,.int .i64)) false),
 (a1O,.con (some (a1s Pg a1O)) (some (a1a,.int .i64)) false),
 (a1x,.con (some (a1s Pg a1x)) (some (a1a,.int .i64)) false),
 (a1P,.con (some (a1s Pg a1P)) (some (a1a,.int .i64)) false),
 (a1w,.con (some (a1s Pg a1w)) (some (a1a,.int .i64)) false),
 (a1K,.con (some (a1s Pg a1K)) (some (a1a,.int .i64)) false),
 (a1F,.con (some (a1s Pg a1F)) (some (a1a,.int .i64)) false),
 (b1n,.con (some (a1s Pg b1n)) (some (a1a,.int .i64)) false),
 (b1c,.con (some (a1s Pg b1c)) (some (a1a,.int .i64)) false),
 (b1y,.con (some (a1s Pg b1y)) (some (a1a,.int .i64)) false),
 (b1x,.con (some (a1s Pg b1x)) (some (a1a,.int .i64)) false),
 (b1t,.con (some (a1s Pg b1t)) (some (a1a,.int .i64)) false),
 (a1Y,.con (some (a1s Pg a1Y)) (some (a1a,.int .i64)) false),
 (b1F,.con (some (a1s Pg b1F)) (some (a1a,.int .i64)) false),
 (b1s,.con (some (a1s Pg b1s)) (some (a1a,.int .i64)) false)]
noncomputable def sh2:FuncId→KM:=fun f=>match shL2.lookup f with
 |some k=>k
 |none=>.inl false
@[irreducible] noncomputable def kc2:KC:=k1a Pg cfg0 rs0 sh2 12
@[irreducible] noncomputable def kt2 (f:FuncId) (args:List AV) (H:Heap):KT:=u1f Pg cfg0 rs0 sh2 12 false f args .none H
theorem hkc2 {QD:List (St→Prop)} {QR:CRes→Prop}:KCS Pg cfg0 evp QD QR kc2:=by
 delta kc2
 exact f1c (d1f hx0) 12 _
theorem m1q {σ:Type} {t:KT} {QD:List (St→Prop)} {QR:CRes→Prop} (S:σ→St) (Inv:σ→Prop) (m:σ→Nat) (a0:σ) (h0:t.atLoop=some (S a0)) (hi:Inv a0)
  (hr:∀a,Inv a→(t.round Pg cfg0 rs0 kc2 (S a)).wp Pg cfg0 evp ((fun s=>∃a',(Inv a'∧m a'<m a)∧s=S a')::QD) QR):t.wp Pg cfg0 evp QD QR:=
 m1J (rs:=rs0) (kc:=kc2) S Inv m a0 (fun _=>hkc2) h0 hi hr
noncomputable def shL3:List (Nat×KM):=[(b1R,.con (some (.arg 0)) none true),
 (b1x,.con (some (a1s Pg b1x)) (some (a1a,.int .i64)) false),
 (m1p,.inl true),
 (c1P,.con (some (a1s Pg c1P)) none false),
 (e1Q,.con (some (a1s Pg e1Q)) none false),
 (d1R,.con (some (a1s Pg d1R)) none false),
 (f1k,.con (some (a1s Pg f1k)) none false),
 (g1a,.con (some (a1s Pg g1a)) none false),
 (g1t,.con (some (a1s Pg g1t)) none false),
 (c1N,.con (some (a1s Pg c1N)) none false),
 (f1i,.con (some (a1s Pg f1i)) none false),
 (b1X,.con (some (a1s Pg b1X)) none false),
 (b1q,.con (some (a1s Pg b1q)) none false),
 (c1y,.con (some (a1s Pg c1y)) none false),
 (e1l,.con (some (a1s Pg e1l)) none false),
 (c1J,.con (some (.tup [.int .i64,.alt (.const (.val .nilIface)) (.const (.iface c1b .any))])) none false),
 (c1L,.con (some (a1s Pg c1L)) none false),
 (i1F,.con (some (a1s Pg i1F)) none false),
 (i1G,.con (some (a1s Pg i1G)) none false),
 (h1V,.con (some (a1s Pg h1V)) none false),
 (j1I,.con (some (a1s Pg j1I)) none false),
 (h1q,.con (some (a1s Pg h1q)) none false),
 (j1J,.con (some (a1s Pg j1J)) none false),
 (i1N,.con (some (a1s Pg i1N)) none false),
 (h1W,.con (some (a1s Pg h1W)) none false),
 (j1K,.con (some (a1s Pg j1K)) none false),
 (h1r,.con (some (a1s Pg h1r)) none false),
 (i1O,.con (some (a1s Pg i1O)) none false),
 (d1n,.con (some (a1s Pg d1n)) none false),
 (e1W,.con (some (a1s Pg e1W)) none false)]
noncomputable def sh3:FuncId→KM:=fun f=>match shL3.lookup f with
 |some k=>k
 |none=>.inl false
@[irreducible] noncomputable def kc3:KC:=k1a Pg cfg0 rs0 sh3 12
@[irreducible] noncomputable def kt3 (f:FuncId) (args:List AV) (H:Heap):KT:=u1f Pg cfg0 rs0 sh3 12 false f args .none H
theorem hkc3 {QD:List (St→Prop)} {QR:CRes→Prop}:KCS Pg cfg0 evp QD QR kc3:=by
 delta kc3
 exact f1c (d1f hx0) 12 _
theorem k1m {f:FuncId} {args:List AV} {H:Heap} {r:CRes} (h:(kt3 f args H).wp Pg cfg0 evp [] (fun x=>x=r)):evp f args .none H=some r:=by
 delta kt3 at h
 obtain⟨x,h1,rfl⟩:=d1P (d1f hx0) h
 exact h1
theorem v1m {σ:Type} {t:KT} {QD:List (St→Prop)} {QR:CRes→Prop} (S:σ→St) (Inv:σ→Prop) (m:σ→Nat) (a0:σ) (h0:t.atLoop=some (S a0)) (hi:Inv a0)
  (hr:∀a,Inv a→(t.round Pg cfg0 rs0 kc3 (S a)).wp Pg cfg0 evp ((fun s=>∃a',(Inv a'∧m a'<m a)∧s=S a')::QD) QR):t.wp Pg cfg0 evp QD QR:=
 m1J (rs:=rs0) (kc:=kc3) S Inv m a0 (fun _=>hkc3) h0 hi hr
end Go.Proofs
end
