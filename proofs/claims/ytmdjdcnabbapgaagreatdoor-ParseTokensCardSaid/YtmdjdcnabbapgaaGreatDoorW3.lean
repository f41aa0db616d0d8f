/- Texts of this proof folded into one: E10 E11 E12 E13. -/
import Derived.Test.YtmdjdcnabbapgaaGreatDoorW2
section
/-
  THE ENGINE, part 10: what a call is to do; operations that call, defer, panic and recover.
-/
set_option linter.unusedVariables false
set_option linter.unusedSimpArgs false
namespace Go.Eng
def o1d (I:Mem) (μ:List Nat) (chain:List PanicEntry) (v:AV):Prop:=
 ∃u older,chain={v:=u,recovered:=false,goexit:=false}::older∧(∀e∈older,e.goexit=false)∧Rep I μ u v
def ModeRel (I:Mem) (μ:List Nat):RM→FrameMode→Prop
 | .none,_=>False
 | .returning,u=>u=.returning
 | .panicking v r,u=>∃x older,u=.panicking ({v:=x,recovered:=r,goexit:=false}::older)∧(∀e∈older,e.goexit=false)∧Rep I μ x v
def OutRel (J:Mem) (ν:List Nat) (w':World):Out→Ending→Prop
 | .ret v,e=>∃v',e=.returned v'∧Rep J ν v' v∧SpareOk J w' v' v
 | .panic v,e=>∃chain,e=.panicked chain∧o1d J ν chain v
def d1d (b:Nat):Out→Ending→Nat
 | .ret v,.returned v'=>tc b v' v
 |_,_=>0
def c1E (μ:List Nat) (HV:List (List Value)) (H:Heap) (cargs:List Value) (args:List AV) (b:Nat):Nat:=μ.count b+tcss b HV H+tcs b cargs args
structure CPost (I:Mem) (μ:List Nat) (HV:List (List Value)) (w:World) (H:Heap) (cargs:List Value) (args:List AV) (out:Out) (H':Heap) (J:Mem) (ν:List Nat) (HV':List (List Value)) (e:Ending) (w':World):Prop where
 h:HInv J ν HV' w' H'
 eff:Eff I w (fun b=>0<c1E μ HV H cargs args b) J w'
 mu:LeN μ ν
 outr:OutRel J ν w' out e
 one:∀b,ν.count b+tcss b HV' H'+d1d b out e≤1
 tok:∀b,0<ν.count b+tcss b HV' H'+d1d b out e→0<c1E μ HV H cargs args b∨w.heap.size≤b
def CallSound (P:Program) (I0:Mem) (call:FuncId→List AV→RM→Heap→Option CRes):Prop:=
 ∀f args rm H res,call f args rm H=some res→∀I μ HV w cargs,LeM I0 I→HInv I μ HV w H→RepL I μ cargs args→AllSpare I w cargs args→(∀b,c1E μ HV H cargs args b≤1)→
  (∃fn c,P.funcs[f]? =some fn∧fn.body=some c∧(fn.name== "runtime.NumGoroutine")=false)∧
  match rm with
  | .none=>Calls P f cargs.toArray w fun e w'=>∃J ν HV',CPost I μ HV w H cargs args res.out res.H J ν HV' e w'
  |rm=>∀u,ModeRel I μ rm u→CallsD P f cargs.toArray u w fun e u' w'=>∃J ν HV',CPost I μ HV w H cargs args res.out res.H J ν HV' e w'∧ModeRel J ν res.rm u'
theorem CallSound.mono {P:Program} {I0 I1:Mem} {call:FuncId→List AV→RM→Heap→Option CRes} (h:CallSound P I0 call) (hle:LeM I0 I1):CallSound P I1 call:=
 fun f args rm H res hc I μ HV w cargs hI=>h f args rm H res hc I μ HV w cargs (hle.trans hI)
section
variable {P:Program} {cfg:FuncId→FCfg} {call:FuncId→List AV→RM→Heap→Option CRes} {I J:Mem} {μ ν:List Nat} {HV:List (List Value)} {lh:List (Option LCell)} {lv:List LV} {w w':World}
 {vs:List Value} {tm:List AV} {H:Heap} {A:Nat→Prop}
theorem o1C (a:Act) (x:Operand):a.eval x=b1f a.tmps.toList x:=by
 cases x with
 |tmp t=>simp [Act.eval,b1f,List.getD_eq_getElem?_getD,Array.getD_eq_getD_getElem?]
 |_=>rfl
theorem a2R (a:Act):a.eval=b1f a.tmps.toList:=funext (o1C a)
section
variable {b:Frame} {a:Act} {k:List Item} {cs:List Frame} {ops:Array Oper} {i:Nat} {rest:List Nat} {o:Oper}
theorem x1k (ho:ops[i]? =some o) (v:Value):(b.at a (.inRegion ops (i::rest)::k)).finish v=b.at (a.put o.dst v) (.inRegion ops rest::k):=by
 rw[Frame.finish_at,ho];rfl
theorem o1D (ho:ops[i]? =some o) (hw:Region.wanted o (yielded ops a.tmps)=true) {n:Next} {v:Value} (hr:(execOp a.eval o).run P w=.ok n w') (hn:p1t n v):
  step P (lone (b.at a (.inRegion ops (i::rest)::k)) cs w)=.next (lone (b.at (a.put o.dst v) (.inRegion ops rest::k)) cs w'):=by
 have hg:=stepG_op (P:=P) (b:=b) (k:=k) (cs:=cs) (w:=w) (rest:=rest) ho hw
 refine step_lone_go ?_
 rw[hg,←x1k ho]
 rcases hn with rfl|⟨rfl,rfl⟩<;>simp [stepG.apply,hr]
theorem t1B (ho:ops[i]? =some o) (hw:Region.wanted o (yielded ops a.tmps)=true) {d:Deferred} (hr:(execOp a.eval o).run P w=.ok (.defer d) w'):
  step P (lone (b.at a (.inRegion ops (i::rest)::k)) cs w)=.next (lone (b.at ({a with defers:=d::a.defers}.put o.dst undef) (.inRegion ops rest::k)) cs w'):=by
 have hg:=stepG_op (P:=P) (b:=b) (k:=k) (cs:=cs) (w:=w) (rest:=rest) ho hw
 refine step_lone_go ?_
 have:({b.at a (.inRegion ops (i::rest)::k) with defers:=d::a.defers}:Frame).finish undef=b.at ({a with defers:=d::a.defers}.put o.dst undef) (.inRegion ops rest::k):=by
  have:=Frame.finish_at b {a with defers:=d::a.defers} ops i rest k undef
  rw[ho] at this;exact this
 rw[hg];simp only[stepG.apply,Sem.runT_eq,hr,GStep.bare_after]
 exact congrArg (fun fr=>GStep.go {frame:=fr,callers:=cs,status:=.running,dying:=none} w') this
theorem t1C (ho:ops[i]? =some o) (hw:Region.wanted o (yielded ops a.tmps)=true) {v:Value} (hr:(execOp a.eval o).run P w=.halt (.panic v) w'):
  step P (lone (b.at a (.inRegion ops (i::rest)::k)) cs w)=.next (lone {b.at a (.inRegion ops (i::rest)::k) with mode:=.panicking [{v,recovered:=false}]} cs w'):=by
 have hg:=stepG_op (P:=P) (b:=b) (k:=k) (cs:=cs) (w:=w) (rest:=rest) ho hw
 refine step_lone_go ?_
 rw[hg,←Frame.raise_at];simp [stepG.apply,hr]
theorem y1g (ho:ops[i]? =some o) (hw:Region.wanted o (yielded ops a.tmps)=true) {f:FuncId} {args:Array Value} (hr:(execOp a.eval o).run P w=.ok (.enter f args) w'):
  step P (lone (b.at a (.inRegion ops (i::rest)::k)) cs w)=.next (lone (Frame.enter P f args .normal) (b.at a (.inRegion ops (i::rest)::k)::cs) w'):=by
 have hg:=stepG_op (P:=P) (b:=b) (k:=k) (cs:=cs) (w:=w) (rest:=rest) ho hw
 exact step_lone_go (by rw[hg];simp [stepG.apply,hr,Frame.at])
theorem q1x (ho:ops[i]? =some o) (hw:Region.wanted o (yielded ops a.tmps)=true) (hb:b.kind=.deferred) (hr:(execOp a.eval o).run P w=.ok .recover w'):
  step P (lone (b.at a (.inRegion ops (i::rest)::k)) cs w)=.next (match recoverD cs with
   |some (v,cs')=>lone (b.at (a.put o.dst v) (.inRegion ops rest::k)) cs' w'
   |none=>lone (b.at (a.put o.dst .nilIface) (.inRegion ops rest::k)) cs w'):=by
 have hg:=stepG_op (P:=P) (b:=b) (k:=k) (cs:=cs) (w:=w) (rest:=rest) ho hw
 have hk:(b.at a (.inRegion ops (i::rest)::k)).kind=.deferred:=hb
 have htr:=tryRecover_deferred hk cs
 split
 ·rename_i v cs' hrec
  refine step_lone_go ?_
  rw[hg,←x1k ho]
  simp only[Frame.at] at htr⊢
  simp [stepG.apply,hr,htr,hrec]
 ·rename_i hrec
  refine step_lone_go ?_
  rw[hg,←x1k ho]
  simp only[Frame.at] at htr⊢
  simp [stepG.apply,hr,htr,hrec]
theorem j1R (ho:ops[i]? =some o) (hw:Region.wanted o (yielded ops a.tmps)=true) {f:FuncId} {args:Array Value} (hr:(execOp a.eval o).run P w=.ok (.enter f args) w) {R:Ending→World→Prop}
  (hc:Calls P f args w R) (hno:∀w',¬R .outgrown w'):∃e w',R e w'∧match e with
   | .returned v=>Steps P (lone (b.at a (.inRegion ops (i::rest)::k)) cs w) (lone (b.at (a.put o.dst v) (.inRegion ops rest::k)) cs w')
   | .panicked chain=>Arrives P (lone (b.at a (.inRegion ops (i::rest)::k)) cs w) b k cs (.panic chain) a w'
   | .outgrown=>False:=by
 obtain⟨e,w'',fr,hR,hsteps,_,hleave⟩:=hc (b.at a (.inRegion ops (i::rest)::k)::cs)
 have henter:=y1g (P:=P) (b:=b) (k:=k) (cs:=cs) (rest:=rest) ho hw hr
 cases e with
 |returned v=>
  refine⟨_,w'',hR,?_⟩
  refine .head henter (Steps.trans hsteps (.one ?_))
  rw[←x1k ho];exact step_leave_returned hleave
 |panicked chain=>
  refine⟨_,w'',hR,.inRegion ops (i::rest)::k,.head henter (Steps.trans hsteps (.one ?_))⟩
  rw[←Frame.raise_at];exact step_leave_panicked hleave
 |outgrown=>exact absurd hR (hno _)
end
theorem r1N {o:Oper} {c:Call} {x:Operand} (hop:o.op=.call c) (hc:c.callee=.value x) {ρ:Operand→Value} {g:FuncId} {first captured:Array Value} (hx:ρ x=.func (.func g) first captured)
  {fn:Func} {body:Code} (hf:P.funcs[g]? =some fn) (hb:fn.body=some body) (hng:(fn.name== "runtime.NumGoroutine")=false) (w:World):
  (execOp ρ o).run P w=.ok (.enter g (first++c.args.map ρ++captured)) w:=by
 have hng':¬fn.name= "runtime.NumGoroutine" :=by simpa using hng
 simp [execOp,hop,resolve,hc,hx,Deferred.ofValue,invoke,callFunc,hf,hb,hng']
theorem RepL.argSpare {cargs:List Value} {args:List AV} (h:∀a∈args,NoOwn a):AllSpare I w cargs args∧∀b,tcs b cargs args=0:=by
 refine⟨fun i v a hv ha=>(h a (List.mem_of_getElem? ha)).spare w v,fun b=>?_⟩
 rcases Nat.eq_zero_or_pos (tcs b cargs args) with h0|h0
 ·exact h0
 ·obtain⟨i,v,a,hv,ha,hp⟩:=w1c h0
  rw[(h a (List.mem_of_getElem? ha)).tc] at hp;omega
theorem i1Z (l:List AV):∀a∈l.map AV.dis,NoOwn a:=by
 intro a ha;simp at ha;obtain⟨x,_,rfl⟩:=ha;exact .dis x
theorem m1u (h:FInv I μ HV lv w vs tm lh H) {xs:List Operand} {ms:List Bool} (hn:(a1q xs ms).Nodup) {cargs:List Value} {args:List AV} {out:Out} {H':Heap} {J:Mem} {ν:List Nat} {HV':List (List Value)} {e:Ending} {w':World}
  (hargs:∀b,tcs b cargs args≤tcs b (xs.map (b1f vs)) (vals tm xs ms)) (hp:CPost I μ HV w H cargs args out H' J ν HV' e w'):
  FInv J ν HV' lv w' vs (disT tm xs ms) lh H'∧Eff I w (fun b=>0<tok μ HV H lv lh vs tm b) J w'∧LeN μ ν∧
   (∀b,tok ν HV' H' lv lh vs (disT tm xs ms) b+d1d b out e≤1)∧(∀b,0<tok ν HV' H' lv lh vs (disT tm xs ms) b+d1d b out e→0<tok μ HV H lv lh vs tm b∨w.heap.size≤b):=by
 have hd:=h.dis xs ms hn
 have htd:=fun b=>g1T h xs ms hn b
 have htm:∀b,tok μ HV H lv lh vs tm b≤1:=fun b=>h.one b
 have hz:∀b,0<c1E μ HV H cargs args b→zsum (lc b) lv lh=0∧tcs b vs (disT tm xs ms)=0:=fun b hb=>by
  have h1:=htd b
  have h2:=htm b
  have h3:=hargs b
  unfold tok at h1 h2;unfold c1E at hb;omega
 have hone:∀b,tok ν HV' H' lv lh vs (disT tm xs ms) b+d1d b out e≤1:=fun b=>by
  have h1:=hp.one b
  by_cases h0:ν.count b+tcss b HV' H'+d1d b out e=0
  ·have h2:=htd b;have h3:=htm b;unfold tok at *;omega
  ·have h2:zsum (lc b) lv lh=0∧tcs b vs (disT tm xs ms)=0:=by
    rcases hp.tok b (by omega) with h3|h3
    ·exact hz b h3
    ·have:=x1w hd (b:=b) (by omega);unfold tok at this;omega
   unfold tok;omega
 refine⟨⟨hp.h,⟨hd.tms.1,fun i v a hv ha=>(hd.tms.2 i v a hv ha).mono hp.eff.le hp.mu⟩,hd.sp.eff hp.eff fun b hb=>(hz b hb).2,hd.ll,m1O hd.lo hp.eff hp.mu fun b hb=>(hz b hb).1,fun b=>?_⟩,
  hp.eff.mono fun b hb=>?_,hp.mu,hone,fun b hb=>?_⟩
 ·have:=hone b;unfold tok at this;omega
 ·have h1:=htd b;have h3:=hargs b;unfold c1E at hb;unfold tok at *;omega
 ·by_cases h0:ν.count b+tcss b HV' H'+d1d b out e=0
  ·left;have h1:=htd b;unfold tok at *;omega
  ·rcases hp.tok b (by omega) with h3|h3
   ·left;have h1:=htd b;have h4:=hargs b;unfold c1E at h3;unfold tok at *;omega
   ·exact .inr h3
end
end Go.Eng
end

section
/-
  THE ENGINE, part 11: one operation in a region; a region in an order.
-/
set_option linter.unusedVariables false
set_option linter.unusedSimpArgs false
namespace Go.Eng
def DRel1 (I:Mem) (μ:List Nat) (d:Deferred) (ad:ADef):Prop:=
 ∃cap,d.target=.fn (.func ad.f) cap∧RepL I μ (d.args.toList++cap.toList) ad.args∧∀a∈ad.args,NoOwn a
def DRel (I:Mem) (μ:List Nat):List Deferred→List ADef→Prop
 |[],[]=>True
 |d::ds,a::asq=>DRel1 I μ d a∧DRel I μ ds asq
 |_,_=>False
def RM.isNone:RM→Bool
 | .none=>true
 |_=>false
def RmOk (I:Mem) (μ:List Nat) (cs0 cs:List Frame):RM→Prop
 | .none=>cs=cs0
 |rm=>∃c rest u,cs0=c::rest∧cs={c with mode:=u}::rest∧ModeRel I μ rm u
structure Base where
 I:Mem
 μ:List Nat
 w:World
 A:Nat→Prop
 cs:List Frame
 dk:Bool
structure Good (B:Base) (s:St) (a:Act) (cs:List Frame) (w:World) (I:Mem) (μ:List Nat) (HV:List (List Value)) (lv:List LV):Prop where
 inv:FInv I μ HV lv w a.tmps.toList s.tmps s.lh s.g.H
 df:DRel I μ a.defers s.g.defers
 rm:RmOk I μ B.cs cs s.g.rm
 dk:s.g.rm.isNone= !B.dk
 eff:Eff B.I B.w B.A I w
 tk:∀b,0<tok μ HV s.g.H lv s.lh a.tmps.toList s.tmps b→B.A b∨B.w.heap.size≤b
 mu:LeN B.μ μ
 bs:s.g.base=B.μ.length
section
variable {P:Program} {cfg:FuncId→FCfg} {call:FuncId→List AV→RM→Heap→Option CRes} {B:Base} {I J:Mem} {μ ν:List Nat}
theorem DRel1.mono (hI:LeM I J) (hμ:LeN μ ν) {d:Deferred} {a:ADef} (h:DRel1 I μ d a):DRel1 J ν d a:=by
 obtain⟨cap,h1,h2,h3⟩:=h
 exact⟨cap,h1,h2.mono hI hμ,h3⟩
theorem DRel.mono (hI:LeM I J) (hμ:LeN μ ν):∀{ds:List Deferred} {asq:List ADef},DRel I μ ds asq→DRel J ν ds asq
 |[],[],h=>h
 |d::ds,a::asq,h=>⟨h.1.mono hI hμ,DRel.mono hI hμ h.2⟩
 |[],_::_,h=>h.elim
 |_::_,[],h=>h.elim
theorem ModeRel.mono (hI:LeM I J) (hμ:LeN μ ν) {rm:RM} {u:FrameMode} (h:ModeRel I μ rm u):ModeRel J ν rm u:=by
 cases rm with
 |none=>exact h
 |returning=>exact h
 |panicking v r=>obtain⟨x,o,h1,h2,h3⟩:=h;exact⟨x,o,h1,h2,h3.mono hI hμ⟩
theorem RmOk.mono (hI:LeM I J) (hμ:LeN μ ν) {cs0 cs:List Frame} {rm:RM} (h:RmOk I μ cs0 cs rm):RmOk J ν cs0 cs rm:=by
 cases rm with
 |none=>exact h
 |returning=>obtain⟨c,r,u,h1,h2,h3⟩:=h;exact⟨c,r,u,h1,h2,h3.mono hI hμ⟩
 |panicking v r=>obtain⟨c,r,u,h1,h2,h3⟩:=h;exact⟨c,r,u,h1,h2,h3.mono hI hμ⟩
theorem l1B {m g':G} {v:AV} (h:h1E m=some (.val v g')):g'.base=m.base:=by
 unfold h1E at h
 split at h
 ·cases h
 all_goals (simp only[Option.some.injEq,GR.val.injEq] at h;rw[←h.2])
theorem y1h {f:FuncId} {o:Oper} {vs:List AV} {m g':G} {v:AV} (h:f1T P cfg call f o vs m=some (.val v g')):g'.base=m.base:=by
 unfold f1T at h
 split at h
 ·split at h
  ·simp only[Option.some.injEq,GR.val.injEq] at h;rw[←h.2]
  ·cases h
 ·split at h
  ·simp only[Option.some.injEq,GR.val.injEq] at h;rw[←h.2]
  ·cases h
 ·split at h
  ·split at h
   ·split at h
    ·simp only[Option.some.injEq,GR.val.injEq] at h;rw[←h.2]
    ·cases h
   ·simp only[Option.map_eq_some_iff,GR.val.injEq] at h
    obtain⟨_,_,_,h⟩:=h
    rw[←h]
  ·cases h
 ·split at h
  ·split at h
   ·simp only[Option.some.injEq,GR.val.injEq] at h;rw[←h.2]
   ·cases h
  ·cases h
 ·split at h
  ·split at h
   ·exact l1B h
   ·cases h
  ·split at h
   ·unfold g1W at h
    split at h
    ·cases h
    ·split at h
     ·simp only[Option.some.injEq,GR.val.injEq] at h;rw[←h.2]
     ·simp at h
     ·cases h
   ·cases h
  ·cases h
 ·split at h
  ·split at h
   ·split at h
    ·cases h
    ·simp only[Option.some.injEq,GR.val.injEq] at h;rw[←h.2]
   ·cases h
  ·cases h
 ·simp at h
 ·cases h
theorem Good.step {s:St} {a:Act} {cs:List Frame} {w:World} {HV:List (List Value)} {lv:List LV} (h:Good B s a cs w I μ HV lv) {HV':List (List Value)} {lv':List LV} {w':World} {a':Act} {s':St}
  (hs:Stp I μ HV lv w a.tmps.toList s.tmps s.lh s.g.H J ν HV' lv' w' a'.tmps.toList s'.tmps s'.lh s'.g.H) (hd:a'.defers=a.defers) (hd':s'.g.defers=s.g.defers) (hr:s'.g.rm=s.g.rm) (hbs:s'.g.base=s.g.base:=by rfl):
  Good B s' a' cs w' J ν HV' lv':=by
 refine⟨hs.inv,?_,?_,by rw[hr];exact h.dk,h.eff.trans hs.eff h.tk,fun b hb=>?_,h.mu.trans hs.mu,by rw[hbs];exact h.bs⟩
 ·rw[hd,hd'];exact h.df.mono hs.eff.le hs.mu
 ·rw[hr];exact h.rm.mono hs.eff.le hs.mu
 ·rcases hs.tok b hb with h1|h1
  ·exact h.tk b h1
  ·exact .inr (Nat.le_trans h.eff.size h1)
theorem f1w (a:Act) (d:Option Tmp) (v:Value):(a.put d v).tmps.toList=putV a.tmps.toList d v:=by
 cases d<;>simp [Act.put,putV]
theorem f1U (a:Act) (d:Option Tmp) (v:Value):(a.put d v).defers=a.defers:=by
 cases d<;>rfl
theorem h1G {s:St} {a:Act} {cs:List Frame} {w:World} {HV:List (List Value)} {lv:List LV} (h:Good B s a cs w I μ HV lv) {ops:Array Oper} {o:Oper} {r:Bool} (hw:e1n ops o s.tmps=some r):
  Region.wanted o (yielded ops a.tmps)=r:=by
 unfold e1n at hw
 unfold Region.wanted
 split at hw
 ·rename_i hg;rw[hg];simp at hw;simpa using hw
 ·rename_i j want hg
  rw[hg]
  simp only
  split at hw
  ·rename_i hd
   simp at hw;subst hw
   simp [yielded,hd]
  ·rename_i t hd
   have hlen:=h.inv.tms.1
   cases ht:s.tmps[t]? with
   |none=>
    simp [ht] at hw;subst hw
    have:a.tmps[t]? =none:=by
     rw[←Array.getElem?_toList]
     exact List.getElem?_eq_none (by rw[hlen];exact List.getElem?_eq_none_iff.1 ht)
    simp [yielded,hd,this]
   |some x=>
    have htl:t<a.tmps.toList.length:=by rw[hlen];exact(List.getElem?_eq_some_iff.1 ht).1
    have hv:=h.inv.tms.2 t _ x (List.getElem?_eq_getElem htl) ht
    have he:a.tmps[t]? =some (a.tmps.toList[t]'htl):=by rw[←Array.getElem?_toList];exact List.getElem?_eq_getElem htl
    simp only[ht] at hw
    split at hw
    ·rename_i e;cases e
    ·rename_i b' e
     cases e
     simp only[Option.some.injEq] at hw;subst hw
     generalize a.tmps.toList[t]'htl=u at hv he
     cases hv
     simp [yielded,hd,he]
    ·rename_i v hnb e
     cases e
     simp only[Option.some.injEq] at hw;subst hw
     generalize a.tmps.toList[t]'htl=u at hv he
     cases hv
     have:yielded ops a.tmps j=none:=by
      simp only[yielded,hd,Option.bind_some,he]
      split
      ·rename_i b' e;cases e;exact absurd rfl (hnb b')
      ·rfl
     simp [this]
    ·cases hw
theorem v1y {cs0 cs:List Frame} {rm:RM} (h:RmOk I μ cs0 cs rm) {g g':G} {v:AV} (hg:g.rm=rm) (hr:h1E g=some (.val v g')):
  ∃v' cs',(match recoverD cs with|some (x,c)=>(x,c)|none=>(.nilIface,cs))=(v',cs')∧Rep I μ v' v∧RmOk I μ cs0 cs' g'.rm∧g'.H=g.H∧g'.defers=g.defers∧g'.rm.isNone=rm.isNone∧NoOwn v:=by
 unfold h1E at hr
 rw[hg] at hr
 cases rm with
 |none=>simp at hr
 |returning=>
  simp only[Option.some.injEq,GR.val.injEq] at hr
  obtain⟨rfl,rfl⟩:=hr
  obtain⟨c,rest,u,h1,h2,h3⟩:=h
  have hu:u=.returning:=h3
  subst hu
  refine⟨.nilIface,cs,by rw[h2];rfl,.val _ .nil,?_,rfl,rfl,by rw[hg],fun _ _ h=>by cases h⟩
  rw[hg];exact⟨c,rest,.returning,h1,h2,rfl⟩
 |panicking x r=>
  obtain⟨c,rest,u,h1,h2,y,older,h3,h4,h5⟩:=h
  subst h3
  cases r with
  |false=>
   simp only[Option.some.injEq,GR.val.injEq] at hr
   obtain⟨rfl,rfl⟩:=hr
   refine⟨y,_,by rw[h2];rfl,h5.dis,⟨c,rest,_,h1,rfl,y,older,rfl,h4,h5⟩,rfl,rfl,rfl,.dis _⟩
  |true=>
   simp only[Option.some.injEq,GR.val.injEq] at hr
   obtain⟨rfl,rfl⟩:=hr
   refine⟨.nilIface,cs,by rw[h2];rfl,.val _ .nil,?_,rfl,rfl,by rw[hg],fun _ _ h=>by cases h⟩
   rw[hg];exact⟨c,rest,_,h1,h2,y,older,rfl,h4,h5⟩
def Goes (P:Program) (B:Base) (s':St) (m:Machine) (b:Frame) (ops:Array Oper) (rest:List Nat) (k:List Item):Prop:=
 ∃a' cs' w' I' μ' HV' lv',Good B s' a' cs' w' I' μ' HV' lv'∧Steps P m (lone (b.at a' (.inRegion ops rest::k)) cs' w')
def l1C (P:Program) (B:Base) (v:AV) (s':St) (m:Machine) (b:Frame) (k:List Item):Prop:=
 ∃a' cs' w' I' μ' HV' lv' chain,Good B s' a' cs' w' I' μ' HV' lv'∧o1d I' μ' chain v∧Arrives P m b k cs' (.panic chain) a' w'
def SRel (P:Program) (B:Base) (r:SR) (m:Machine) (b:Frame) (ops:Array Oper) (rest:List Nat) (k:List Item):Prop:=
 match r with
 | .next s'=>Goes P B s' m b ops rest k
 | .panic v s'=>l1C P B v s' m b k
theorem o1E {x:Value} {cargs:List Value} {lh:List (Option LCell)} {lv:List LV} {w:World} {g:FuncId} {first captured args:List AV} (hv:TRepL I μ lh lv (x::cargs) (.func (.func g) first captured::args))
  (hs:AllSpare I w (x::cargs) (.func (.func g) first captured::args)) (hlp:(first.map AV.dis++args++captured.map AV.dis).any AV.isLp=false):
  ∃f c:Array Value,x=.func (.func g) f c∧RepL I μ (f.toList++cargs++c.toList) (first.map AV.dis++args++captured.map AV.dis)∧AllSpare I w (f.toList++cargs++c.toList) (first.map AV.dis++args++captured.map AV.dis)∧
   ∀b,tcs b (f.toList++cargs++c.toList) (first.map AV.dis++args++captured.map AV.dis)=tcs b (x::cargs) (.func (.func g) first captured::args):=by
 have h1:=hv.uncons.1
 have h2:=hv.uncons.2
 cases h1 with
 |func fn f c af ac r1 r2 _=>
  have hargs:RepL I μ cargs args:=h2.repL (by
   rw[List.any_append,List.any_append] at hlp
   simp only[Bool.or_eq_false_iff] at hlp
   exact hlp.1.2)
  obtain⟨s1,s2⟩:=RepL.argSpare (I:=I) (w:=w) (cargs:=f.toList) (i1Z first)
  obtain⟨s3,s4⟩:=RepL.argSpare (I:=I) (w:=w) (cargs:=c.toList) (i1Z captured)
  have hs2:AllSpare I w cargs args:=fun i v a hv ha=>hs (i+1) v a (by simpa using hv) (by simpa using ha)
  refine⟨f,c,rfl,(r1.dis.append hargs).append r2.dis,AllSpare.append (by have:=r1.dis.length;have:=hargs.length;simp at *;omega) (AllSpare.append r1.dis.length s1 hs2) s3,fun b=>?_⟩
  have e1:=c1T (tc b) (l:=f.toList++cargs) (l':=c.toList) (m:=first.map AV.dis++args) (m':=captured.map AV.dis) (by have:=r1.dis.length;have:=hargs.length;simp at *;omega)
  have e2:=c1T (tc b) (l:=f.toList) (l':=cargs) (m:=first.map AV.dis) (m':=args) r1.dis.length
  have e3:=s2 b
  have e4:=s4 b
  simp only[tcs] at *
  rw[e1,e2]
  simp only[zsum,tc]
  omega
theorem x1l (hcall:CallSound P B.I call) {s:St} {a:Act} {cs:List Frame} {w:World} {HV:List (List Value)} {lv:List LV} (h:Good B s a cs w I μ HV lv) {f:FuncId} {o:Oper} {r:SR} (hr:aop P cfg call f o s=some r)
  {b:Frame} {ops:Array Oper} {i:Nat} {rest:List Nat} {k:List Item} (ho:ops[i]? =some o) (hw:Region.wanted o (yielded ops a.tmps)=true) (hb:B.dk=true→b.kind=.deferred):
  SRel P B r (lone (b.at a (.inRegion ops (i::rest)::k)) cs w) b ops rest k:=by
 unfold aop at hr
 simp only at hr
 split at hr
 ·rename_i hn
  have hev:=a2R a
  split at hr
  ·
   split at hr
   ·rename_i v hv
    simp only[Option.some.injEq] at hr;subst hr
    obtain⟨v',w',J,e1,e2⟩:=b2G (P:=P) h.inv hn hv
    rw[←hev] at e1
    refine⟨a.put o.dst v',cs,w',J,μ,HV,lv,h.step (a':=a.put o.dst v') ?_ (f1U ..) rfl rfl,.one (o1D ho hw e1 (.inl rfl))⟩
    simp only[f1w];exact e2
   ·cases hr
  ·
   rename_i l wr hcl
   split at hr
   ·rename_i c hc
    split at hr
    ·rename_i v c' hv
     simp only[Option.some.injEq] at hr;subst hr
     obtain⟨n,v',w',lv',e1,e2,e3⟩:=e2z (P:=P) h.inv hn hcl hc hv
     rw[←hev] at e1
     refine⟨a.put o.dst v',cs,w',I,μ,HV,lv',h.step (a':=a.put o.dst v') ?_ (f1U ..) rfl rfl,.one (o1D ho hw e1 e2)⟩
     simp only[f1w];exact e3
    ·cases hr
   ·cases hr
  ·
   rename_i wr hcl
   have hmem:∀v g',((∃e,o.op=.alloc e)∨(∃e x,o.op=.box e x)∨(∃t a,o.op=.load t a)∨(∃t a x,o.op=.store t a x))→
     f1T P cfg call f o (vals s.tmps o.op.operands.toList (b1v cfg f o)) s.g=some (.val v g')→
     SRel P B (.next {s with tmps:=putT (disT s.tmps o.op.operands.toList (b1v cfg f o)) o.dst v,g:=g'}) (lone (b.at a (.inRegion ops (i::rest)::k)) cs w) b ops rest k:=by
    intro v g' hop hg
    obtain⟨n,v',w',ν,HV',e1,e2,e3,e4,e5⟩:=s1k (P:=P) h.inv hn rfl hop hg
    rw[←hev] at e1
    refine⟨a.put o.dst v',cs,w',I,ν,HV',lv,h.step (a':=a.put o.dst v') (J:=I) ?_ (f1U ..) e3 e4 (y1h hg),.one (o1D ho hw e1 e2)⟩
    simp only[f1w];exact e5
   have hv:=l1Y h.inv.tms o.op.operands.toList (b1v cfg f o)
   have hsp:=i1y h.inv.tms h.inv.sp o.op.operands.toList (b1v cfg f o)
   have hd:=h.inv.dis o.op.operands.toList (b1v cfg f o) hn
   have htd:=fun b=>g1T h.inv o.op.operands.toList (b1v cfg f o) hn b
   have hquiet:∀(g':G) (v:AV) (v':Value) (a1:Act) (cs1:List Frame),g'.H=s.g.H→Rep I μ v' v→NoOwn v→a1.tmps=a.tmps→DRel I μ a1.defers g'.defers→RmOk I μ B.cs cs1 g'.rm→g'.rm.isNone=s.g.rm.isNone→g'.base=s.g.base→
     Good B {s with tmps:=putT (disT s.tmps o.op.operands.toList (b1v cfg f o)) o.dst v,g:=g'} (a1.put o.dst v') cs1 w I μ HV lv:=by
    intro g' v v' a1 cs1 hgH hrep hno hat hdf hrm hin hbs
    have h3:=hd.put o.dst (v:=v') (r:=v) (.of hrep) (hno.spare w v') (fun b=>by rw[hno.tc];have:=hd.one b;unfold Eng.tok;omega)
    refine⟨?_,?_,hrm,by rw[hin];exact h.dk,h.eff,fun b hb=>?_,h.mu,by rw[hbs];exact h.bs⟩
    ·simp only[f1w,hat,hgH];exact h3
    ·rw[f1U];exact hdf
    ·simp only[f1w,hat,hgH] at hb
     have t1:=c1R (μ:=μ) (HV:=HV) (H:=s.g.H) (lv:=lv) (lh:=s.lh) hd.tms.1 o.dst v' v b
     have t3:=htd b
     rw[hno.tc] at t1
     exact h.tk b (by omega)
   split at hr
   ·
    rename_i v g' hg
    simp only[Option.some.injEq] at hr;subst hr
    have hg0:=hg
    unfold f1T at hg
    split at hg
    ·rename_i e hop;exact hmem v g' (.inl ⟨e,hop⟩) hg0
    ·rename_i e x hop;exact hmem v g' (.inr (.inl ⟨e,x,hop⟩)) hg0
    ·rename_i t x id off hop hvs;exact hmem v g' (.inr (.inr (.inl ⟨t,x,hop⟩))) hg0
    ·rename_i t x y id off u hop hvs;exact hmem v g' (.inr (.inr (.inr ⟨t,x,y,hop⟩))) hg0
    ·
     rename_i c hop
     split at hg
     ·
      rename_i hc
      split at hg
      ·obtain⟨v',cs',q1,q2,q3,q4,q5,q6,hno⟩:=v1y h.rm rfl hg
       have hrun:(execOp a.eval o).run P w=.ok .recover w:=by
        simp [execOp,hop,resolve,hc,invoke,builtin]
       have hdk:B.dk=true:=by
        have:=h.dk
        cases hx:B.dk with
        |true=>rfl
        |false=>
         rw[hx] at this
         cases hrm:s.g.rm<;>rw[hrm] at this<;>simp [RM.isNone] at this
         simp [h1E,hrm] at hg
       have hst:=q1x (P:=P) (b:=b) (k:=k) (cs:=cs) (rest:=rest) ho hw (hb hdk) hrun
       refine⟨a.put o.dst v',cs',w,I,μ,HV,lv,hquiet g' v v' a cs' q4 q2 hno rfl (by rw[q5];exact h.df) q3 q6 (l1B hg),.one ?_⟩
       rw[hst]
       cases hrd:recoverD cs with
       |none=>rw[hrd] at q1;cases q1;rfl
       |some x=>obtain⟨x1,x2⟩:=x;rw[hrd] at q1;cases q1;rfl
      ·cases hg
     ·
      rename_i x hc
      split at hg
      ·rename_i g first captured args hvs
       unfold g1W at hg
       split at hg
       ·cases hg
       ·rename_i hlp
        have hops:o.op.operands.toList=x::c.args.toList:=by simp [hop,Op.operands,Call.operands,hc]
        have hv':=hv
        have hsp':=hsp
        rw[hvs,hops] at hv' hsp'
        obtain⟨cf,cc,z1,z2,z3,z4⟩:=o1E hv' hsp' (by simpa using hlp)
        have htc:∀b,tcs b (cf.toList++c.args.toList.map (b1f a.tmps.toList)++cc.toList) (first.map AV.dis++args++captured.map AV.dis)≤tcs b (o.op.operands.toList.map (b1f a.tmps.toList)) (vals s.tmps o.op.operands.toList (b1v cfg f o)):=fun b=>by
         rw[hvs,hops];exact Nat.le_of_eq (z4 b)
        have hone:∀b,c1E μ HV s.g.H (cf.toList++c.args.toList.map (b1f a.tmps.toList)++cc.toList) (first.map AV.dis++args++captured.map AV.dis) b≤1:=fun b=>by
         have q1:=htc b;have q2:=htd b;have q3:=h.inv.one b
         unfold c1E;unfold Eng.tok at q2;omega
        split at hg
        ·rename_i v1 rm1 H1 hcl1
         simp only[Option.some.injEq,GR.val.injEq] at hg;obtain⟨rfl,rfl⟩:=hg
         obtain⟨⟨fn,body,hf,hbd,hng⟩,hcalls⟩:=hcall g _ .none s.g.H _ hcl1 I μ HV w _ h.eff.le h.inv.h z2 z3 hone
         simp only at hcalls
         have hrun:=r1N (P:=P) (o:=o) hop hc (ρ:=a.eval) (by rw[hev];exact z1) hf hbd hng w
         have hca:cf++c.args.map a.eval++cc=(cf.toList++c.args.toList.map (b1f a.tmps.toList)++cc.toList).toArray:=by
          apply Array.ext';simp [hev]
         rw[hca] at hrun
         obtain⟨e,w',⟨J,ν,HV',hp⟩,hst⟩:=j1R (P:=P) (b:=b) (k:=k) (cs:=cs) (rest:=rest) ho hw hrun hcalls (by
          rintro w' ⟨J,ν,HV',hp⟩
          obtain⟨v',hv',_⟩:=hp.outr
          cases hv')
         obtain⟨v',rfl,hrep,hspr⟩:=hp.outr
         obtain⟨f1,f2,f3,f4,f5⟩:=m1u h.inv hn htc hp
         simp only[d1d] at f4 f5
         have h3:=f1.put o.dst (v:=v') (r:=v1) (.of hrep) hspr f4
         refine⟨a.put o.dst v',cs,w',J,ν,HV',lv,⟨?_,?_,h.rm.mono f2.le f3,h.dk,h.eff.trans f2 h.tk,fun b' hb'=>?_,h.mu.trans f3,h.bs⟩,hst⟩
         ·simp only[f1w];exact h3
         ·rw[f1U];exact h.df.mono f2.le f3
         ·simp only[f1w] at hb'
          have t1:=c1R (μ:=ν) (HV:=HV') (H:=H1) (lv:=lv) (lh:=s.lh) f1.tms.1 o.dst v' v1 b'
          rcases f5 b' (by omega) with h1|h1
          ·exact h.tk b' h1
          ·exact .inr (Nat.le_trans h.eff.size h1)
        ·cases hg
        ·cases hg
      ·cases hg
     ·cases hg
    ·
     rename_i c hop
     split at hg
     ·rename_i x hc
      split at hg
      ·rename_i g first captured args hvs
       split at hg
       ·cases hg
       ·rename_i hlp
        simp only[Option.some.injEq,GR.val.injEq] at hg;obtain⟨rfl,rfl⟩:=hg
        have hops:o.op.operands.toList=x::c.args.toList:=by simp [hop,Op.operands,Call.operands,hc]
        have hv':=hv
        rw[hvs,hops] at hv'
        have h1:=hv'.uncons.1
        have hargs:RepL I μ (c.args.toList.map (b1f a.tmps.toList)) args:=hv'.uncons.2.repL (by
         have hlp':(first++args++captured).any AV.isLp=false:=by simpa using hlp
         rw[List.any_append,List.any_append] at hlp'
         simp only[Bool.or_eq_false_iff] at hlp'
         exact hlp'.1.2)
        obtain⟨cf,cc,hx,r1,r2⟩:∃cf cc:Array Value,b1f a.tmps.toList x=.func (.func g) cf cc∧RepL I μ cf.toList first∧RepL I μ cc.toList captured:=by
         generalize b1f a.tmps.toList x=u at h1
         cases h1 with
         |func fn f c af ac r1 r2 _=>exact⟨f,c,rfl,r1,r2⟩
        have hrun:(execOp a.eval o).run P w=.ok (.defer {target:=.fn (.func g) cc,args:=cf++c.args.map a.eval}) w:=by
         simp [execOp,hop,resolve,hc,hev,hx,Deferred.ofValue]
        refine⟨_,cs,w,I,μ,HV,lv,hquiet _ (.val undef) undef {a with defers:=_::a.defers} cs rfl (.val _ .nil) (fun _ _ h=>by cases h) rfl ⟨⟨cc,rfl,?_,i1Z _⟩,h.df⟩ h.rm rfl rfl,.one (t1B ho hw hrun)⟩
        have:=((r1.append hargs).append r2).dis
        simpa [hev] using this
      ·cases hg
     ·cases hg
    ·cases hg
    ·cases hg
   ·
    rename_i v g' hg
    simp only[Option.some.injEq] at hr;subst hr
    unfold f1T at hg
    split at hg
    ·split at hg<;>simp at hg
    ·split at hg<;>simp at hg
    ·split at hg
     ·split at hg
      ·split at hg<;>simp at hg
      ·simp at hg
     ·simp at hg
    ·split at hg
     ·split at hg<;>simp at hg
     ·simp at hg
    ·rename_i c hop
     split at hg
     ·split at hg
      ·unfold h1E at hg;split at hg<;>simp at hg
      ·cases hg
     ·rename_i x hc
      split at hg
      ·rename_i g first captured args hvs
       unfold g1W at hg
       split at hg
       ·cases hg
       ·rename_i hlp
        have hops:o.op.operands.toList=x::c.args.toList:=by simp [hop,Op.operands,Call.operands,hc]
        have hv':=hv
        have hsp':=hsp
        rw[hvs,hops] at hv' hsp'
        obtain⟨cf,cc,z1,z2,z3,z4⟩:=o1E hv' hsp' (by simpa using hlp)
        have htc:∀b,tcs b (cf.toList++c.args.toList.map (b1f a.tmps.toList)++cc.toList) (first.map AV.dis++args++captured.map AV.dis)≤tcs b (o.op.operands.toList.map (b1f a.tmps.toList)) (vals s.tmps o.op.operands.toList (b1v cfg f o)):=fun b=>by
         rw[hvs,hops];exact Nat.le_of_eq (z4 b)
        have hone:∀b,c1E μ HV s.g.H (cf.toList++c.args.toList.map (b1f a.tmps.toList)++cc.toList) (first.map AV.dis++args++captured.map AV.dis) b≤1:=fun b=>by
         have q1:=htc b;have q2:=htd b;have q3:=h.inv.one b
         unfold c1E;unfold Eng.tok at q2;omega
        split at hg
        ·cases hg
        ·rename_i v1 rm1 H1 hcl1
         simp only[Option.some.injEq,GR.panic.injEq] at hg;obtain⟨rfl,rfl⟩:=hg
         obtain⟨⟨fn,body,hf,hbd,hng⟩,hcalls⟩:=hcall g _ .none s.g.H _ hcl1 I μ HV w _ h.eff.le h.inv.h z2 z3 hone
         simp only at hcalls
         have hrun:=r1N (P:=P) (o:=o) hop hc (ρ:=a.eval) (by rw[hev];exact z1) hf hbd hng w
         have hca:cf++c.args.map a.eval++cc=(cf.toList++c.args.toList.map (b1f a.tmps.toList)++cc.toList).toArray:=by
          apply Array.ext';simp [hev]
         rw[hca] at hrun
         obtain⟨e,w',⟨J,ν,HV',hp⟩,hst⟩:=j1R (P:=P) (b:=b) (k:=k) (cs:=cs) (rest:=rest) ho hw hrun hcalls (by
          rintro w' ⟨J,ν,HV',hp⟩
          obtain⟨v',hv',_⟩:=hp.outr
          cases hv')
         obtain⟨chain,rfl,hch⟩:=hp.outr
         obtain⟨f1,f2,f3,f4,f5⟩:=m1u h.inv hn htc hp
         simp only[d1d] at f4 f5
         refine⟨a,cs,w',J,ν,HV',lv,chain,⟨f1,h.df.mono f2.le f3,h.rm.mono f2.le f3,h.dk,h.eff.trans f2 h.tk,fun b' hb'=>?_,h.mu.trans f3,h.bs⟩,hch,hst⟩
         rcases f5 b' (by simpa using hb') with h1|h1
         ·exact h.tk b' h1
         ·exact .inr (Nat.le_trans h.eff.size h1)
        ·cases hg
      ·cases hg
     ·cases hg
    ·split at hg
     ·split at hg
      ·split at hg<;>simp at hg
      ·cases hg
     ·cases hg
    ·rename_i x t u hop hvs
     simp only[Option.some.injEq,GR.panic.injEq] at hg;obtain⟨rfl,rfl⟩:=hg
     have hops:o.op.operands.toList=[x]:=by simp [hop,Op.operands]
     have hv':=hv
     rw[hvs,hops] at hv'
     have h1:=hv'.uncons.1
     obtain⟨y,hy,hrep⟩:∃y,b1f a.tmps.toList x=.iface t y∧Rep I μ (.iface t y) (.iface t u):=by
      generalize b1f a.tmps.toList x=z at h1
      cases h1 with
      |iface _ _ _ h2 _=>exact⟨_,rfl,.iface _ _ _ h2 .nil⟩
     have hrun:(execOp a.eval o).run P w=.halt (.panic (.iface t y)) w:=by
      simp [execOp,hop,hev,hy,Instr.panic]
     refine⟨a,cs,w,I,μ,HV,lv,_,⟨hd,h.df,h.rm,h.dk,h.eff,fun b' hb'=>?_,h.mu,h.bs⟩,⟨_,[],rfl,by simp,hrep⟩,⟨_,.one (t1C ho hw hrun)⟩⟩
     have:=htd b'
     simp only at hb'
     exact h.tk b' (by omega)
    ·cases hg
   ·cases hr
 ·cases hr
theorem m1v (hcall:CallSound P B.I call) {f:FuncId} {ops:Array Oper} {q:List Nat}:∀(l:List Nat) {s:St} {x:AX} {s':St},aops P cfg call f ops l s=some (x,s')→
  ∀{a:Act} {cs:List Frame} {w:World} {I:Mem} {μ:List Nat} {HV:List (List Value)} {lv:List LV},Good B s a cs w I μ HV lv→∀{b:Frame} {k:List Item},(B.dk=true→b.kind=.deferred)→
   (x=.normal∧Goes P B s' (lone (b.at a (.inRegion ops (l++q)::k)) cs w) b ops q k)∨∃v,x=.panic v∧l1C P B v s' (lone (b.at a (.inRegion ops (l++q)::k)) cs w) b k:=by
 intro l
 induction l with
 |nil=>
  intro s x s' hr a cs w I μ HV lv h b k hb
  simp only[aops,Option.some.injEq,Prod.mk.injEq] at hr
  obtain⟨rfl,rfl⟩:=hr
  exact .inl ⟨rfl,a,cs,w,I,μ,HV,lv,h,Steps.refl P _⟩
 |cons i rest ih=>
  intro s x s' hr a cs w I μ HV lv h b k hb
  simp only[aops] at hr
  split at hr
  ·cases hr
  ·rename_i o ho
   have hnext:∀s1,Goes P B s1 (lone (b.at a (.inRegion ops (i::(rest++q))::k)) cs w) b ops (rest++q) k→aops P cfg call f ops rest s1=some (x,s')→
     (x=.normal∧Goes P B s' (lone (b.at a (.inRegion ops (i::(rest++q))::k)) cs w) b ops q k)∨∃v,x=.panic v∧l1C P B v s' (lone (b.at a (.inRegion ops (i::(rest++q))::k)) cs w) b k:=by
    rintro s1 ⟨a1,cs1,w1,I1,μ1,HV1,lv1,g1,st1⟩ hr1
    rcases ih hr1 g1 (b:=b) (k:=k) hb with ⟨rfl,a2,cs2,w2,I2,μ2,HV2,lv2,g2,st2⟩|⟨v,rfl,a2,cs2,w2,I2,μ2,HV2,lv2,ch,g2,c2,st2⟩
    ·exact .inl ⟨rfl,a2,cs2,w2,I2,μ2,HV2,lv2,g2,st1.trans st2⟩
    ·exact .inr ⟨v,rfl,a2,cs2,w2,I2,μ2,HV2,lv2,ch,g2,c2,.of_steps st1 st2⟩
   split at hr
   ·rename_i s1 hs
    unfold d1p at hs
    split at hs
    ·rename_i hw
     exact hnext s1 (x1l hcall h hs ho (h1G h hw) hb) hr
    ·rename_i hw
     simp only[Option.some.injEq,SR.next.injEq] at hs
     subst hs
     have hw':=h1G h hw
     have h3:=h.inv.put o.dst (v:=undef) (r:=.val undef) (.of (.val _ .nil)) (fun _ _ _ _ _ _ _ h=>by cases h) (fun b=>by have:=h.inv.one b;unfold Eng.tok;simp only[tc,undef];omega)
     refine hnext {s with tmps:=putT s.tmps o.dst (.val undef)} ⟨a.put o.dst undef,cs,w,I,μ,HV,lv,⟨?_,by rw[f1U];exact h.df,h.rm,h.dk,h.eff,fun b' hb'=>?_,h.mu,h.bs⟩,.one ?_⟩ hr
     ·simp only[f1w];exact h3
     ·simp only[f1w] at hb'
      have t1:=c1R (μ:=μ) (HV:=HV) (H:=s.g.H) (lv:=lv) (lh:=s.lh) h.inv.tms.1 o.dst undef (.val undef) b'
      have t4:tc b' undef (.val undef)=0:=rfl
      exact h.tk b' (by omega)
     ·have:=step_op_skip (P:=P) (b:=b) (a:=a) (k:=k) (cs:=cs) (w:=w) (ops:=ops) (i:=i) (rest:=rest++q) (by simp [ho,hw'])
      simp only[ho,Option.bind_some] at this
      exact this
    ·cases hs
   ·rename_i v s1 hs
    simp only[Option.some.injEq,Prod.mk.injEq] at hr
    obtain⟨rfl,rfl⟩:=hr
    unfold d1p at hs
    split at hs
    ·rename_i hw
     exact .inr ⟨v,rfl,x1l hcall h hs ho (h1G h hw) hb⟩
    ·cases hs
    ·cases hs
   ·cases hr
theorem l1D (hcall:CallSound P B.I call) {f:FuncId} {ops:Array Oper} (l:List Nat) {s:St} {x:AX} {s':St} (hr:aops P cfg call f ops l s=some (x,s'))
  {a:Act} {cs:List Frame} {w:World} {I:Mem} {μ:List Nat} {HV:List (List Value)} {lv:List LV} (h:Good B s a cs w I μ HV lv) {b:Frame} {k:List Item} (hb:B.dk=true→b.kind=.deferred):
   (x=.normal∧Goes P B s' (lone (b.at a (.inRegion ops l::k)) cs w) b ops [] k)∨∃v,x=.panic v∧l1C P B v s' (lone (b.at a (.inRegion ops l::k)) cs w) b k:=by
 have:=m1v (q:=[]) hcall l hr h (b:=b) (k:=k) hb
 rwa [List.append_nil] at this
end
end Go.Eng
end

section
/-
  THE ENGINE, part 12: a region whose order is drawn: what the text's order comes to, every order comes to.
-/
set_option linter.unusedVariables false
set_option linter.unusedSimpArgs false
namespace Go.Eng
inductive LVal where
 |g (g:G)
 |l (c:Option (Option LCell))
 |t (v:Option AV)
def loc (s:St) (x:Nat):LVal:=
 if x=0 then .g s.g else if x%2=1 then .l s.lh[x/2]? else .t s.tmps[x/2-1]?
theorem a2S (s:St) (t:Nat):loc s (2*t+2)=.t s.tmps[t]?:=by
 unfold loc;rw[if_neg (by omega),if_neg (by omega)];congr 2;omega
theorem i2u (s:St) (t:Nat):loc s (2*t+1)=.l s.lh[t]?:=by
 unfold loc;rw[if_neg (by omega),if_pos (by omega)];congr 2;omega
theorem v1z (s:St):loc s 0=.g s.g:=rfl
theorem g2Q {s s':St} (h:∀x,loc s x=loc s' x):s=s':=by
 obtain⟨a,b,c⟩:=s
 obtain⟨a',b',c'⟩:=s'
 have h0:=h 0
 simp only[v1z,LVal.g.injEq] at h0
 have h1:a=a':=List.ext_getElem? fun i=>by have:=h (2*i+2);simpa [a2S] using this
 have h2:b=b':=List.ext_getElem? fun i=>by have:=h (2*i+1);simpa [i2u] using this
 subst h0 h1 h2;rfl
def d1N (s s':St):Prop:=s.tmps.length=s'.tmps.length∧s.lh.length=s'.lh.length
theorem f1b:∀(xs:List Operand) (t:Nat),.tmp t∈xs→(i1X xs).testBit (2*t+2)=true
 | .tmp u::r,t,h=>by
  simp only[i1X,Nat.testBit_or,Nat.testBit_two_pow,Bool.or_eq_true,decide_eq_true_eq]
  simp only[List.mem_cons] at h
  rcases h with h|h
  ·cases h;exact .inl rfl
  ·exact .inr (f1b r t h)
 | .const v::r,t,h=>by simp only[List.mem_cons] at h;rcases h with h|h;cases h;simpa [i1X] using f1b r t h
 | .global v::r,t,h=>by simp only[List.mem_cons] at h;rcases h with h|h;cases h;simpa [i1X] using f1b r t h
 | .func v::r,t,h=>by simp only[List.mem_cons] at h;rcases h with h|h;cases h;simpa [i1X] using f1b r t h
 |[],t,h=>by simp at h
theorem j1a:∀(xs:List Tmp) (t:Nat),t∈xs→(h1F xs).testBit (2*t+2)=true
 |u::r,t,h=>by
  simp only[h1F,Nat.testBit_or,Nat.testBit_two_pow,Bool.or_eq_true,decide_eq_true_eq]
  simp only[List.mem_cons] at h
  rcases h with h|h
  ·subst h;exact .inl rfl
  ·exact .inr (j1a r t h)
 |[],t,h=>by simp at h
section
variable {P:Program} {cfg:FuncId→FCfg} {call:FuncId→List AV→RM→Heap→Option CRes}
theorem o1F {a b:List AV} {x:Operand} (h:∀t,x=.tmp t→a[t]? =b[t]?):e1I a x=e1I b x:=by
 cases x with
 |tmp t=>simp [e1I,List.getD_eq_getElem?_getD,h t rfl]
 |_=>rfl
theorem k1q {a b:List AV}:∀(xs:List Operand) (ms:List Bool),(∀t,.tmp t∈xs→a[t]? =b[t]?)→vals a xs ms=vals b xs ms
 |[],ms,_=>by cases ms<;>rfl
 |x::r,[],h=>by simp only[vals];rw[o1F (fun t e=>h t (by simp [e])),k1q r [] fun t ht=>h t (by simp [ht])]
 |x::r,m::ms,h=>by simp only[vals];rw[o1F (fun t e=>h t (by simp [e])),k1q r ms fun t ht=>h t (by simp [ht])]
theorem g1F (a:List AV):∀(xs:List Operand) (ms:List Bool) (i:Nat),(disT a xs ms)[i]? =if i∈a1q xs ms then (a[i]?).map AV.dis else a[i]?
 |[],ms,i=>by simp [disT,a1q]
 | .tmp t::r,true::ms,i=>by
  simp only[disT,a1q]
  rw[g1F]
  by_cases e:t=i
  ·subst e
   simp only[List.getElem?_modify,if_true,List.mem_cons,true_or]
   cases a[t]? with
   |none=>simp
   |some v=>simp [b2F]
  ·have:i≠t:=fun h=>e h.symm
   simp [List.getElem?_modify,e,this]
 | .tmp t::r,false::ms,i=>by simp only[disT,a1q];exact g1F a r ms i
 | .const _::r,m::ms,i=>by cases m<;>(simp only[disT,a1q];exact g1F a r ms i)
 | .global _::r,m::ms,i=>by cases m<;>(simp only[disT,a1q];exact g1F a r ms i)
 | .func _::r,m::ms,i=>by cases m<;>(simp only[disT,a1q];exact g1F a r ms i)
 | .tmp t::r,[],i=>by simp [disT,a1q]
 | .const _::r,[],i=>by simp [disT,a1q]
 | .global _::r,[],i=>by simp [disT,a1q]
 | .func _::r,[],i=>by simp [disT,a1q]
theorem f1V (a:List AV):∀(xs:List Operand) (ms:List Bool),(disT a xs ms).length=a.length:=by
 intro xs
 induction xs generalizing a with
 |nil=>intro ms;simp [disT]
 |cons x xs ih=>
  intro ms
  cases ms with
  |nil=>cases x<;>rfl
  |cons m ms=>cases x<;>cases m<;>simp [disT,ih]
theorem h1a:∀(xs:List Operand) (ms:List Bool) (t:Tmp),t∈a1q xs ms→.tmp t∈xs
 | .tmp u::r,true::ms,t,h=>by
  simp only[a1q,List.mem_cons] at h
  rcases h with rfl|h
  ·simp
  ·exact List.mem_cons_of_mem _ (h1a r ms t h)
 | .tmp u::r,false::ms,t,h=>List.mem_cons_of_mem _ (h1a r ms t (by simpa [a1q] using h))
 | .const _::r,m::ms,t,h=>List.mem_cons_of_mem _ (h1a r ms t (by cases m<;>simpa [a1q] using h))
 | .global _::r,m::ms,t,h=>List.mem_cons_of_mem _ (h1a r ms t (by cases m<;>simpa [a1q] using h))
 | .func _::r,m::ms,t,h=>List.mem_cons_of_mem _ (h1a r ms t (by cases m<;>simpa [a1q] using h))
 |[],ms,t,h=>by simp [a1q] at h
 | .tmp u::r,[],t,h=>by simp [a1q] at h
 | .const _::r,[],t,h=>by simp [a1q] at h
 | .global _::r,[],t,h=>by simp [a1q] at h
 | .func _::r,[],t,h=>by simp [a1q] at h
theorem j1b (a:List AV) (d:Option Tmp) (v:AV) (i:Nat):(putT a d v)[i]? =if d=some i then (if i<a.length then some v else none) else a[i]?:=by
 cases d with
 |none=>simp [putT]
 |some t=>
  simp only[putT,List.getElem?_set,Option.some.injEq]
  by_cases e:t=i
  ·subst e;simp
  ·simp [e]
theorem n1p {ops:Array Oper} {o:Oper} {a b:List AV} (h:∀t,g1E ops o=some t→a[t]? =b[t]?):e1n ops o a=e1n ops o b:=by
 unfold e1n
 unfold g1E at h
 cases hg:o.guard with
 |none=>rfl
 |some p=>
  obtain⟨j,want⟩:=p
  simp only[hg] at h⊢
  cases hd:(ops[j]?).bind (·.dst) with
  |none=>rfl
  |some t=>simp only[h t hd]
theorem a2T {f:FuncId} {o:Oper} {vs:List AV} {l:Nat} {c c':Option LCell} {v:AV} (hcl:acls cfg f o vs=.loc l false) (hp:aloc P cfg f o vs c=some (v,c')):c'=c:=by
 cases hop:o.op<;>simp only[acls,hop] at hcl
 case alloc=>split at hcl<;>(try split at hcl)<;>(try split at hcl)<;>simp at hcl
 case box=>split at hcl<;>(try split at hcl)<;>(try split at hcl)<;>simp at hcl
 case load t x=>
  split at hcl
  ·simp at hcl
  ·simp only[Cls.loc.injEq] at hcl
   simp only[aloc,hop] at hp
   split at hp
   ·split at hp
    ·rename_i hgg
     rw[if_neg (by rw[hcl.2];simp)] at hp
     simp only[Option.map_eq_some_iff,Prod.mk.injEq] at hp
     obtain⟨_,_,_,rfl⟩:=hp
     rw[hgg]
    ·cases hp
   ·cases hp
  ·simp at hcl
 case store=>split at hcl<;>simp at hcl
 case call c0=>split at hcl<;>simp at hcl
 all_goals (simp at hcl)
theorem y1i {f:FuncId} {o:Oper} {vs:List AV} {m m':G} {v:AV} (hcl:acls cfg f o vs=.glob false) (hp:f1T P cfg call f o vs m=some (.val v m')):m'=m:=by
 cases hop:o.op<;>simp only[acls,hop] at hcl
 case alloc=>split at hcl<;>(try split at hcl)<;>(try split at hcl)<;>simp at hcl
 case box=>split at hcl<;>(try split at hcl)<;>(try split at hcl)<;>simp at hcl
 case load t x=>
  split at hcl
  ·simp only[Cls.glob.injEq] at hcl
   simp only[f1T,hop] at hp
   split at hp
   ·rw[if_neg (by rw[hcl];simp)] at hp
    simp only[Option.map_eq_some_iff,GR.val.injEq] at hp
    obtain⟨_,_,_,rfl⟩:=hp
    rfl
   ·cases hp
  ·simp at hcl
  ·simp at hcl
 case store=>split at hcl<;>simp at hcl
 case call c0=>split at hcl<;>simp at hcl
 all_goals (simp at hcl)
theorem i1t {f:FuncId} {ops:Array Oper} {o:Oper} {s s' t:St} (hl:d1N s s') (hs:d1p P cfg call f ops o s=some (.next t))
  (hR:∀x,(d1s cfg f ops o s).testBit x=true→loc s x=loc s' x):
  d1s cfg f ops o s'=d1s cfg f ops o s∧b1U cfg f ops o s'=b1U cfg f ops o s∧d1N s t∧(∀x,(b1U cfg f ops o s).testBit x=false→loc t x=loc s x)∧
  ∃t',d1p P cfg call f ops o s'=some (.next t')∧d1N s' t'∧(∀x,(b1U cfg f ops o s).testBit x=true→loc t' x=loc t x)∧(∀x,(b1U cfg f ops o s).testBit x=false→loc t' x=loc s' x):=by
 have hops:∀u,.tmp u∈o.op.operands.toList→s.tmps[u]? =s'.tmps[u]?:=fun u hu=>by
  have:=hR (2*u+2) (by unfold d1s;simp only[Nat.testBit_or,f1b _ u hu,Bool.true_or])
  simpa [a2S] using this
 have hgd:∀u,g1E ops o=some u→s.tmps[u]? =s'.tmps[u]?:=fun u hu=>by
  have:=hR (2*u+2) (by unfold d1s;simp [Nat.testBit_or,hu,l1y,Nat.testBit_two_pow])
  simpa [a2S] using this
 have hw:=n1p hgd
 have hv:vals s'.tmps o.op.operands.toList (b1v cfg f o)=vals s.tmps o.op.operands.toList (b1v cfg f o):=(k1q _ _ hops).symm
 have eR:d1s cfg f ops o s'=d1s cfg f ops o s:=by unfold d1s;rw[←hw,hv]
 have eW:b1U cfg f ops o s'=b1U cfg f ops o s:=by unfold b1U;rw[←hw,hv]
 refine⟨eR,eW,?_⟩
 have hdW:∀u,o.dst=some u→(b1U cfg f ops o s).testBit (2*u+2)=true:=fun u hu=>by
  unfold b1U;simp [Nat.testBit_or,hu,l1y,Nat.testBit_two_pow]
 have hmW:∀u,u∈a1q o.op.operands.toList (b1v cfg f o)→(b1U cfg f ops o s).testBit (2*u+2)=true:=fun u hu=>by
  unfold b1U;simp only[Nat.testBit_or,j1a _ u hu,Bool.or_true,Bool.true_or]
 have hWi:∀x,(b1U cfg f ops o s).testBit x=true→(∃u,x=2*u+2∧(o.dst=some u∨u∈a1q o.op.operands.toList (b1v cfg f o)))∨
   (e1n ops o s.tmps=some true∧((∃l,x=2*l+1∧acls cfg f o (vals s.tmps o.op.operands.toList (b1v cfg f o))=.loc l true)∨(x=0∧acls cfg f o (vals s.tmps o.op.operands.toList (b1v cfg f o))=.glob true))):=fun x hx=>by
  unfold b1U at hx
  simp only[Nat.testBit_or,Bool.or_eq_true] at hx
  rcases hx with (hx|hx)|hx
  ·cases hd:o.dst with
   |none=>simp [hd,l1y] at hx
   |some u=>simp [hd,l1y,Nat.testBit_two_pow] at hx;exact .inl ⟨u,hx.symm,.inl rfl⟩
  ·have key:∀(l:List Tmp),(h1F l).testBit x=true→∃u,x=2*u+2∧u∈l:=by
    intro l
    induction l with
    |nil=>intro h;simp [h1F] at h
    |cons u l ih=>
     intro h
     simp only[h1F,Nat.testBit_or,Nat.testBit_two_pow,Bool.or_eq_true,decide_eq_true_eq] at h
     rcases h with h|h
     ·exact⟨u,h.symm,by simp⟩
     ·obtain⟨z,h1,h2⟩:=ih h;exact⟨z,h1,by simp [h2]⟩
   obtain⟨u,h1,h2⟩:=key _ hx
   exact .inl ⟨u,h1,.inr h2⟩
  ·right
   split at hx
   ·rename_i hw
    refine⟨hw,?_⟩
    split at hx
    ·rename_i l hc;simp [Nat.testBit_two_pow] at hx;exact .inl ⟨l,hx.symm,hc⟩
    ·rename_i hc
     refine .inr ⟨?_,hc⟩
     have:(1:Nat)=2^0:=rfl
     rw[this,Nat.testBit_two_pow] at hx;simp at hx;exact hx.symm
    ·simp at hx
   ·simp at hx
 have hWl:∀l,e1n ops o s.tmps=some true→acls cfg f o (vals s.tmps o.op.operands.toList (b1v cfg f o))=.loc l true→(b1U cfg f ops o s).testBit (2*l+1)=true:=fun l hw hc=>by
  unfold b1U;simp [Nat.testBit_or,hw,hc,Nat.testBit_two_pow]
 have hWg:e1n ops o s.tmps=some true→acls cfg f o (vals s.tmps o.op.operands.toList (b1v cfg f o))=.glob true→(b1U cfg f ops o s).testBit 0=true:=fun hw hc=>by
  unfold b1U;simp [Nat.testBit_or,hw,hc]
 have hin:∀v u,(o.dst=some u∨u∈a1q o.op.operands.toList (b1v cfg f o))→
   (putT (disT s'.tmps o.op.operands.toList (b1v cfg f o)) o.dst v)[u]? =(putT (disT s.tmps o.op.operands.toList (b1v cfg f o)) o.dst v)[u]?:=fun v u hu=>by
  rw[j1b,j1b,f1V,f1V,g1F,g1F,hl.1]
  by_cases hd:o.dst=some u
  ·simp [hd]
  ·have hm:=hu.resolve_left hd
   simp only[hd,if_false,hm,if_true,hops u (h1a _ _ _ hm)]
 have hout:∀v u (a:List AV),o.dst≠some u→u ∉ a1q o.op.operands.toList (b1v cfg f o)→(putT (disT a o.op.operands.toList (b1v cfg f o)) o.dst v)[u]? =a[u]?:=fun v u a h1 h2=>by
  rw[j1b,g1F,if_neg h1,if_neg h2]
 have hin0:∀v u,(o.dst=some u∨u∈a1q o.op.operands.toList (b1v cfg f o))→(putT s'.tmps o.dst v)[u]? =(putT s.tmps o.dst v)[u]?:=fun v u hu=>by
  rw[j1b,j1b,hl.1]
  by_cases hd:o.dst=some u
  ·simp [hd]
  ·have hm:=hu.resolve_left hd
   simp only[hd,if_false,hops u (h1a _ _ _ hm)]
 have hlenP:∀v (a:List AV),(putT a o.dst v).length=a.length:=fun v a=>by cases o.dst<;>simp [putT]
 have htodd:∀(x:Nat) (q:St),x≠0→x%2=0→loc q x=.t q.tmps[x/2-1]?:=fun x q h1 h2=>by unfold loc;rw[if_neg h1,if_neg (by omega)]
 have hlodd:∀(x:Nat) (q:St),x%2=1→loc q x=.l q.lh[x/2]?:=fun x q h2=>by unfold loc;rw[if_neg (by omega),if_pos h2]
 have hT:∀(T T':List AV),T.length=s.tmps.length→T'.length=s'.tmps.length→
   (∀u,(o.dst=some u∨u∈a1q o.op.operands.toList (b1v cfg f o))→T'[u]? =T[u]?)→(∀u,o.dst≠some u→u ∉ a1q o.op.operands.toList (b1v cfg f o)→T[u]? =s.tmps[u]?∧T'[u]? =s'.tmps[u]?)→
   ∀(L L':List (Option LCell)) (g1 g1':G),L.length=s.lh.length→L'.length=s'.lh.length→
   (∀l,(b1U cfg f ops o s).testBit (2*l+1)=true→L'[l]? =L[l]?)→(∀l,(b1U cfg f ops o s).testBit (2*l+1)=false→L[l]? =s.lh[l]?∧L'[l]? =s'.lh[l]?)→
   ((b1U cfg f ops o s).testBit 0=true→g1'=g1)→((b1U cfg f ops o s).testBit 0=false→g1=s.g∧g1'=s'.g)→
   d1N s ⟨T,L,g1⟩∧(∀x,(b1U cfg f ops o s).testBit x=false→loc ⟨T,L,g1⟩ x=loc s x)∧
   (d1N s' ⟨T',L',g1'⟩∧(∀x,(b1U cfg f ops o s).testBit x=true→loc ⟨T',L',g1'⟩ x=loc ⟨T,L,g1⟩ x)∧(∀x,(b1U cfg f ops o s).testBit x=false→loc ⟨T',L',g1'⟩ x=loc s' x)):=by
  intro T T' h1 h2 h3 h4 L L' g1 g1' h5 h6 h7 h8 h9 h10
  have hno:∀u,(b1U cfg f ops o s).testBit (2*u+2)=false→o.dst≠some u∧u ∉ a1q o.op.operands.toList (b1v cfg f o):=fun u hu=>by
   refine⟨fun h=>?_,fun h=>?_⟩
   ·rw[hdW u h] at hu;cases hu
   ·rw[hmW u h] at hu;cases hu
  refine⟨⟨h1.symm,h5.symm⟩,fun x hx=>?_,⟨h2.symm,h6.symm⟩,fun x hx=>?_,fun x hx=>?_⟩
  ·by_cases hx0:x=0
   ·subst hx0;simp only[v1z];rw[(h10 hx).1]
   ·by_cases hx1:x%2=1
    ·rw[hlodd x _ hx1,hlodd x _ hx1]
     have:x=2*(x/2)+1:=by omega
     rw[this] at hx
     simp only[(h8 _ hx).1]
    ·rw[htodd x _ hx0 (by omega),htodd x _ hx0 (by omega)]
     have:x=2*(x/2-1)+2:=by omega
     rw[this] at hx
     obtain⟨k1,k2⟩:=hno _ hx
     simp only[(h4 _ k1 k2).1]
  ·by_cases hx0:x=0
   ·subst hx0;simp only[v1z];rw[h9 hx]
   ·by_cases hx1:x%2=1
    ·rw[hlodd x _ hx1,hlodd x _ hx1]
     have:x=2*(x/2)+1:=by omega
     rw[this] at hx
     simp only[h7 _ hx]
    ·rw[htodd x _ hx0 (by omega),htodd x _ hx0 (by omega)]
     rcases hWi x hx with ⟨u,e,hu⟩|⟨_,⟨l,e,_⟩|⟨e,_⟩⟩
     ·have:x/2-1=u:=by omega
      simp only[this,h3 u hu]
     ·omega
     ·omega
  ·by_cases hx0:x=0
   ·subst hx0;simp only[v1z];rw[(h10 hx).2]
   ·by_cases hx1:x%2=1
    ·rw[hlodd x _ hx1,hlodd x _ hx1]
     have:x=2*(x/2)+1:=by omega
     rw[this] at hx
     simp only[(h8 _ hx).2]
    ·rw[htodd x _ hx0 (by omega),htodd x _ hx0 (by omega)]
     have:x=2*(x/2-1)+2:=by omega
     rw[this] at hx
     obtain⟨k1,k2⟩:=hno _ hx
     simp only[(h4 _ k1 k2).2]
 have hT1:∀(v:AV) (L L':List (Option LCell)) (g1 g1':G),L.length=s.lh.length→L'.length=s'.lh.length→
   (∀l,(b1U cfg f ops o s).testBit (2*l+1)=true→L'[l]? =L[l]?)→(∀l,(b1U cfg f ops o s).testBit (2*l+1)=false→L[l]? =s.lh[l]?∧L'[l]? =s'.lh[l]?)→
   ((b1U cfg f ops o s).testBit 0=true→g1'=g1)→((b1U cfg f ops o s).testBit 0=false→g1=s.g∧g1'=s'.g)→_:=fun v=>
  hT (putT (disT s.tmps o.op.operands.toList (b1v cfg f o)) o.dst v) (putT (disT s'.tmps o.op.operands.toList (b1v cfg f o)) o.dst v) (by rw[hlenP,f1V]) (by rw[hlenP,f1V]) (hin v)
   (fun u h1 h2=>⟨hout v u _ h1 h2,hout v u _ h1 h2⟩)
 unfold d1p at hs⊢
 rw[←hw]
 split at hs
 ·rename_i hwt
  unfold aop at hs⊢
  simp only at hs⊢
  rw[hv]
  split at hs
  ·rename_i hnd
   rw[if_pos hnd]
   split at hs
   ·rename_i hcl
    split at hs
    ·rename_i v hp
     simp only[Option.some.injEq,SR.next.injEq] at hs;subst hs
     have hnl:∀l,(b1U cfg f ops o s).testBit (2*l+1)=false:=fun l=>by
      cases hx:(b1U cfg f ops o s).testBit (2*l+1) with
      |false=>rfl
      |true=>rcases hWi _ hx with ⟨u,e,_⟩|⟨_,⟨l',e,h⟩|⟨e,h⟩⟩<;>first|omega|(rw[hcl] at h;cases h)
     have hng:(b1U cfg f ops o s).testBit 0=false:=by
      cases hx:(b1U cfg f ops o s).testBit 0 with
      |false=>rfl
      |true=>rcases hWi _ hx with ⟨u,e,_⟩|⟨_,⟨l',e,h⟩|⟨e,h⟩⟩<;>first|omega|(rw[hcl] at h;cases h)
     obtain⟨k1,k2,k3⟩:=hT1 v s.lh s'.lh s.g s'.g rfl rfl (fun l hl=>by rw[hnl l] at hl;cases hl) (fun l _=>⟨rfl,rfl⟩) (fun h=>by rw[hng] at h;cases h) (fun _=>⟨rfl,rfl⟩)
     refine⟨k1,k2,_,?_,k3⟩
     rfl
    ·cases hs
   ·rename_i l wr hcl
    split at hs
    ·rename_i c hc
     split at hs
     ·rename_i v c' hp
      simp only[Option.some.injEq,SR.next.injEq] at hs;subst hs
      have hRl:(d1s cfg f ops o s).testBit (2*l+1)=true:=by unfold d1s;simp [Nat.testBit_or,hwt,hcl,Nat.testBit_two_pow]
      have hc':s'.lh[l]? =some c:=by have:=hR _ hRl;simp only[i2u,LVal.l.injEq] at this;rw[←this];exact hc
      have hng:(b1U cfg f ops o s).testBit 0=false:=by
       cases hx:(b1U cfg f ops o s).testBit 0 with
       |false=>rfl
       |true=>rcases hWi _ hx with ⟨u,e,_⟩|⟨_,⟨l',e,h⟩|⟨e,h⟩⟩<;>first|omega|(rw[hcl] at h;cases h)
      have hsame:wr=false→c'=c:=fun hwr=>by subst hwr;exact a2T hcl hp
      obtain⟨k1,k2,k3⟩:=hT1 v (s.lh.set l c') (s'.lh.set l c') s.g s'.g (by simp) (by simp)
       (fun l' hl'=>by
        rcases hWi _ hl' with ⟨u,e,_⟩|⟨_,⟨l2,e,h⟩|⟨e,h⟩⟩
        ·omega
        ·rw[hcl] at h
         simp only[Cls.loc.injEq] at h
         obtain⟨rfl,_⟩:=h
         have:l'=l:=by omega
         subst this
         rw[List.getElem?_set,List.getElem?_set,if_pos rfl,if_pos rfl,hl.2]
        ·omega)
       (fun l' hl'=>by
        by_cases e:l=l'
        ·subst e
         cases wr with
         |true=>rw[hWl l hwt hcl] at hl';cases hl'
         |false=>rw[hsame rfl,g1j hc,g1j hc'];exact⟨rfl,rfl⟩
        ·rw[List.getElem?_set_ne e,List.getElem?_set_ne e];exact⟨rfl,rfl⟩)
       (fun h=>by rw[hng] at h;cases h) (fun _=>⟨rfl,rfl⟩)
      refine⟨k1,k2,_,?_,k3⟩
      simp only[hc',hp]
     ·cases hs
    ·cases hs
   ·rename_i wr hcl
    have hRg:(d1s cfg f ops o s).testBit 0=true:=by unfold d1s;simp [Nat.testBit_or,hwt,hcl]
    have hg':s'.g=s.g:=by have:=hR 0 hRg;simp only[v1z,LVal.g.injEq] at this;exact this.symm
    split at hs
    ·rename_i v g2 hp
     simp only[Option.some.injEq,SR.next.injEq] at hs;subst hs
     have hnl:∀l,(b1U cfg f ops o s).testBit (2*l+1)=false:=fun l=>by
      cases hx:(b1U cfg f ops o s).testBit (2*l+1) with
      |false=>rfl
      |true=>rcases hWi _ hx with ⟨u,e,_⟩|⟨_,⟨l',e,h⟩|⟨e,h⟩⟩<;>first|omega|(rw[hcl] at h;cases h)
     have hsame:wr=false→g2=s.g:=fun hwr=>by subst hwr;exact y1i hcl hp
     obtain⟨k1,k2,k3⟩:=hT1 v s.lh s'.lh g2 g2 rfl rfl (fun l hl=>by rw[hnl l] at hl;cases hl) (fun l _=>⟨rfl,rfl⟩) (fun _=>rfl) (fun h=>by
      cases wr with
      |true=>rw[hWg hwt hcl] at h;cases h
      |false=>rw[hg'];exact⟨hsame rfl,hsame rfl⟩)
     refine⟨k1,k2,_,?_,k3⟩
     simp only[hg',hp]
    ·cases hs
    ·cases hs
  ·cases hs
 ·rename_i hwf
  simp only[Option.some.injEq,SR.next.injEq] at hs;subst hs
  have hnl:∀l,(b1U cfg f ops o s).testBit (2*l+1)=false:=fun l=>by
   cases hx:(b1U cfg f ops o s).testBit (2*l+1) with
   |false=>rfl
   |true=>rcases hWi _ hx with ⟨u,e,_⟩|⟨h,_⟩<;>first|omega|(rw[hwf] at h;cases h)
  have hng:(b1U cfg f ops o s).testBit 0=false:=by
   cases hx:(b1U cfg f ops o s).testBit 0 with
   |false=>rfl
   |true=>rcases hWi _ hx with ⟨u,e,_⟩|⟨h,_⟩<;>first|omega|(rw[hwf] at h;cases h)
  obtain⟨k1,k2,k3⟩:=hT (putT s.tmps o.dst (.val undef)) (putT s'.tmps o.dst (.val undef)) (hlenP _ _) (hlenP _ _) (hin0 _) (fun u h1 h2=>by rw[j1b,j1b,if_neg h1,if_neg h1];exact⟨rfl,rfl⟩)
   s.lh s'.lh s.g s'.g rfl rfl (fun l hl=>by rw[hnl l] at hl;cases hl) (fun l _=>⟨rfl,rfl⟩) (fun h=>by rw[hng] at h;cases h) (fun _=>⟨rfl,rfl⟩)
  exact⟨k1,k2,_,rfl,k3⟩
 ·cases hs
theorem q1X {f:FuncId} {ops:Array Oper} {o:Oper} {s s' t:St} {v:AV} (hl:d1N s s') (hs:d1p P cfg call f ops o s=some (.panic v t))
  (hR:∀x,(d1s cfg f ops o s).testBit x=true→loc s x=loc s' x) (h0:(d1s cfg f ops o s).testBit 0=true) (h1:(b1U cfg f ops o s).testBit 0=true):
  d1N s t∧(∀x,(b1U cfg f ops o s).testBit x=false→loc t x=loc s x)∧∃t',d1p P cfg call f ops o s'=some (.panic v t')∧d1N s' t'∧t'.g=t.g:=by
 have hops:∀u,.tmp u∈o.op.operands.toList→s.tmps[u]? =s'.tmps[u]?:=fun u hu=>by
  have:=hR (2*u+2) (by unfold d1s;simp only[Nat.testBit_or,f1b _ u hu,Bool.true_or])
  simpa [a2S] using this
 have hgd:∀u,g1E ops o=some u→s.tmps[u]? =s'.tmps[u]?:=fun u hu=>by
  have:=hR (2*u+2) (by unfold d1s;simp [Nat.testBit_or,hu,l1y,Nat.testBit_two_pow])
  simpa [a2S] using this
 have hw:=n1p hgd
 have hv:vals s'.tmps o.op.operands.toList (b1v cfg f o)=vals s.tmps o.op.operands.toList (b1v cfg f o):=(k1q _ _ hops).symm
 have hg':s'.g=s.g:=by have:=hR 0 h0;simp only[v1z,LVal.g.injEq] at this;exact this.symm
 have hmW:∀u,u∈a1q o.op.operands.toList (b1v cfg f o)→(b1U cfg f ops o s).testBit (2*u+2)=true:=fun u hu=>by
  unfold b1U;simp only[Nat.testBit_or,j1a _ u hu,Bool.or_true,Bool.true_or]
 unfold d1p at hs⊢
 rw[←hw]
 split at hs
 ·unfold aop at hs⊢
  simp only at hs⊢
  rw[hv]
  split at hs
  ·rename_i hnd
   rw[if_pos hnd]
   split at hs
   ·split at hs<;>simp at hs
   ·split at hs
    ·split at hs<;>simp at hs
    ·simp at hs
   ·split at hs
    ·simp at hs
    ·rename_i v2 g2 hp
     simp only[Option.some.injEq,SR.panic.injEq] at hs
     obtain⟨rfl,rfl⟩:=hs
     refine⟨⟨(f1V _ _ _).symm,rfl⟩,fun x hx=>?_,⟨disT s'.tmps o.op.operands.toList (b1v cfg f o),s'.lh,g2⟩,?_,⟨(f1V _ _ _).symm,rfl⟩,rfl⟩
     ·by_cases hx0:x=0
      ·subst hx0;rw[h1] at hx;cases hx
      ·by_cases hx1:x%2=1
       ·unfold loc;rw[if_neg hx0,if_pos hx1,if_neg hx0,if_pos hx1]
       ·unfold loc;rw[if_neg hx0,if_neg hx1,if_neg hx0,if_neg hx1]
        have:x=2*(x/2-1)+2:=by omega
        rw[g1F,if_neg fun hm=>by
         have:=hmW _ hm
         rw[← ‹x=2*(x/2-1)+2›,hx] at this;cases this]
     ·simp only[hg',hp]
    ·cases hs
  ·cases hs
 ·simp at hs
 ·cases hs
end
end Go.Eng
end

section
/-
  THE ENGINE, part 13: any order of a region comes to what the text's order comes to.
-/
set_option linter.unusedVariables false
set_option linter.unusedSimpArgs false
namespace Go.Eng
section
variable {P:Program} {cfg:FuncId→FCfg} {call:FuncId→List AV→RM→Heap→Option CRes}
structure Trace (P:Program) (cfg:FuncId→FCfg) (call:FuncId→List AV→RM→Heap→Option CRes) (f:FuncId) (ops:Array Oper) (i n:Nat) (l:List Oper) (ancs:List Nat) (foot:List (Nat×Nat)) (σ:Nat→St):Prop where
 step:∀m,i≤m→m<n→∃o R W anc,l[m-i]? =some o∧d1p P cfg call f ops o (σ m)=some (.next (σ (m+1)))∧foot[m]? =some (R,W)∧R=d1s cfg f ops o (σ m)∧W=b1U cfg f ops o (σ m)∧
  ancs[m]? =some anc∧anc=ancBits (ancs.take m) o.after.toList∧edgesDown m o.after.toList=true∧apartFrom anc R W 0 (foot.take m)=true
theorem v1A {f:FuncId} {ops:Array Oper}:∀(l:List Oper) (i:Nat) (ancs:List Nat) (foot:List (Nat×Nat)) (s s':St),g1X P cfg call f ops l i ancs foot s=some s'→ancs.length=i→foot.length=i→
  ∃ancsF footF σ,ancsF.take i=ancs∧footF.take i=foot∧ancsF.length=i+l.length∧footF.length=i+l.length∧σ i=s∧σ (i+l.length)=s'∧Trace P cfg call f ops i (i+l.length) l ancsF footF σ:=by
 intro l
 induction l with
 |nil=>
  intro i ancs foot s s' h h1 h2
  simp only[g1X,Option.some.injEq] at h
  subst h
  exact⟨ancs,foot,fun _=>s,by simp [←h1],by simp [←h2],by simp [h1],by simp [h2],rfl,rfl,⟨fun m hm hm2=>by simp at hm2;omega⟩⟩
 |cons o r ih=>
  intro i ancs foot s s' h h1 h2
  simp only[g1X] at h
  split at h
  ·rename_i hc
   split at h
   ·rename_i s1 hs
    obtain⟨A,F,σ,a1,a2,a3,a4,a5,a6,a7⟩:=ih (i+1) _ _ s1 s' h (by simp [h1]) (by simp [h2])
    have eA:A.take i=ancs:=by
     have:=congrArg (List.take i) a1
     rw[List.take_take,Nat.min_eq_left (by omega),List.take_append_of_le_length (by omega),List.take_of_length_le (l:=ancs) (by omega)] at this
     exact this
    have eF:F.take i=foot:=by
     have:=congrArg (List.take i) a2
     rw[List.take_take,Nat.min_eq_left (by omega),List.take_append_of_le_length (by omega),List.take_of_length_le (l:=foot) (by omega)] at this
     exact this
    have gA:A[i]? =some (ancBits ancs o.after.toList):=by
     have:=congrArg (fun l=>l[i]?) a1
     simp only[List.getElem?_take,if_pos (Nat.lt_succ_self i)] at this
     rw[this,List.getElem?_append_right (by omega)];simp [h1]
    have gF:F[i]? =some (d1s cfg f ops o s,b1U cfg f ops o s):=by
     have:=congrArg (fun l=>l[i]?) a2
     simp only[List.getElem?_take,if_pos (Nat.lt_succ_self i)] at this
     rw[this,List.getElem?_append_right (by omega)];simp [h2]
    refine⟨A,F,fun j=>if j=i then s else σ j,eA,eF,by simp [a3];omega,by simp [a4];omega,by simp,?_,⟨fun m hm hm2=>?_⟩⟩
    ·show (if i+(o::r).length=i then s else σ (i+(o::r).length))=s'
     rw[if_neg (by simp)]
     rw[show i+(o::r).length=i+1+r.length by simp;omega];exact a6
    ·by_cases e:m=i
     ·subst e
      refine⟨o,_,_,_,by simp,?_,gF,by simp,by simp,gA,by rw[eA],hc.1,?_⟩
      ·simp [a5];exact hs
      ·rw[eF];exact hc.2
     ·obtain⟨o',R,W,anc,b1,b2,b3,b4,b5,b6,b7,b8,b9⟩:=a7.step m (by omega) (by simp at hm2;omega)
      refine⟨o',R,W,anc,?_,?_,b3,?_,?_,b6,b7,b8,b9⟩
      ·have:m-i=(m-(i+1))+1:=by omega
       rw[this];simpa using b1
      ·rw[if_neg e,if_neg (by omega)];exact b2
      ·rw[if_neg e];exact b4
      ·rw[if_neg e];exact b5
   ·cases h
  ·cases h
theorem k1J {anc R W:Nat}:∀{l:List (Nat×Nat)} {j k:Nat} {r w:Nat},apartFrom anc R W j l=true→l[k]? =some (r,w)→
  anc.testBit (j+k)=true∨∀x,¬(w.testBit x=true∧(R.testBit x=true∨W.testBit x=true))∧¬(r.testBit x=true∧W.testBit x=true):=by
 intro l
 induction l with
 |nil=>intro j k r w _ h;simp at h
 |cons p l ih=>
  intro j k r w h hk
  obtain⟨r0,w0⟩:=p
  simp only[apartFrom,Bool.and_eq_true,Bool.or_eq_true,beq_iff_eq] at h
  cases k with
  |zero=>
   simp only[List.getElem?_cons_zero,Option.some.injEq,Prod.mk.injEq] at hk
   obtain⟨rfl,rfl⟩:=hk
   rcases h.1 with h1|h1
   ·exact .inl h1
   ·right
    intro x
    have:=congrArg (fun n=>Nat.testBit n x) h1
    simp only[Nat.testBit_or,Nat.testBit_and,Nat.zero_testBit,Bool.or_eq_false_iff,Bool.and_eq_false_imp] at this
    refine⟨fun ⟨q1,q2⟩=>?_,fun ⟨q1,q2⟩=>?_⟩
    ·have:=this.1 q1
     rcases q2 with q2|q2<;>simp_all
    ·have:=this.2 q1;simp_all
  |succ k=>
   rcases ih h.2 (by simpa using hk) with h1|h1
   ·left;rwa [show j+(k+1)=j+1+k by omega]
   ·exact .inr h1
theorem n1q {ancs:List Nat} {j:Nat}:∀{es:List Edge},(ancBits ancs es).testBit j=true→∃e∈es,Region.binds .any e=true∧(e.on=j∨(ancs.getD e.on 0).testBit j=true):=by
 intro es
 induction es with
 |nil=>intro h;simp [ancBits] at h
 |cons e es ih=>
  intro h
  simp only[ancBits,Nat.testBit_or,Bool.or_eq_true] at h
  rcases h with h|h
  ·split at h
   ·rename_i hb
    simp only[Nat.testBit_or,Nat.testBit_two_pow,Bool.or_eq_true,decide_eq_true_eq] at h
    exact⟨e,by simp,hb,h⟩
   ·simp at h
  ·obtain⟨e',h1,h2⟩:=ih h
   exact⟨e',by simp [h1],h2⟩
theorem g1h {i:Nat}:∀{es:List Edge},edgesDown i es=true→∀e∈es,Region.binds .any e=true→e.on<i:=by
 intro es
 induction es with
 |nil=>intro _ e he;simp at he
 |cons e es ih=>
  intro h e' he hb
  simp only[edgesDown,Bool.and_eq_true,Bool.or_eq_true,Bool.not_eq_true',decide_eq_true_eq] at h
  simp only[List.mem_cons] at he
  rcases he with rfl|he
  ·rcases h.1 with h1|h1
   ·rw[hb] at h1;cases h1
   ·exact h1
  ·exact ih h.2 e' he hb
structure Part (n:Nat) (σ:Nat→St) (W:Nat→Nat) (anc:Nat→Nat) (S:Nat→Prop) (u:St):Prop where
 len:d1N (σ 0) u
 places:∀x,∃j,j≤n∧(j=0∨(S (j-1)∧(W (j-1)).testBit x=true∧0<j))∧loc u x=loc (σ j) x∧∀m,S m→m<n→(W m).testBit x=true→m<j
 closed:∀m,S m→m<n→∀j,j<n→(anc m).testBit j=true→S j
theorem v1B {f:FuncId} {ops:Array Oper} {s s':St} (h:g1X P cfg call f ops ops.toList 0 [] [] s=some s') (t:Nat):
  aops P cfg call f ops (Region.linearise .any ops t) s=some (.normal,s'):=by
 obtain⟨A,F,σ,_,_,hA,hF,h0,hn,tr⟩:=v1A ops.toList 0 [] [] s s' h rfl rfl
 simp only[Nat.zero_add] at hA hF hn tr
 have hsz:ops.toList.length=ops.size:=by simp
 rw[hsz] at hA hF hn tr
 let W:Nat→Nat:=fun m=>(F.getD m (0,0)).2
 let R:Nat→Nat:=fun m=>(F.getD m (0,0)).1
 let anc:Nat→Nat:=fun m=>A.getD m 0
 have st:∀m,m<ops.size→∃o,ops[m]? =some o∧d1p P cfg call f ops o (σ m)=some (.next (σ (m+1)))∧R m=d1s cfg f ops o (σ m)∧W m=b1U cfg f ops o (σ m)∧
   (∀j,(anc m).testBit j=true→∃e∈o.after.toList,Region.binds .any e=true∧(e.on=j∨(anc e.on).testBit j=true))∧(∀e∈o.after.toList,Region.binds .any e=true→e.on<m)∧
   ∀j,j<m→(anc m).testBit j=true∨∀x,¬((W j).testBit x=true∧((R m).testBit x=true∨(W m).testBit x=true))∧¬((R j).testBit x=true∧(W m).testBit x=true):=by
  intro m hm
  obtain⟨o,r,wv,an,b1,b2,b3,b4,b5,b6,b7,b8,b9⟩:=tr.step m (Nat.zero_le _) hm
  have eW:W m=wv:=by simp [W,List.getD_eq_getElem?_getD,b3]
  have eR:R m=r:=by simp [R,List.getD_eq_getElem?_getD,b3]
  have eA:anc m=an:=by simp [anc,List.getD_eq_getElem?_getD,b6]
  refine⟨o,by simpa using b1,b2,by rw[eR,b4],by rw[eW,b5],fun j hj=>?_,g1h b8,fun j hj=>?_⟩
  ·rw[eA,b7] at hj
   obtain⟨e,h1,h2,h3⟩:=n1q hj
   refine⟨e,h1,h2,h3.imp id fun h4=>?_⟩
   have hlt:=g1h b8 e h1 h2
   simp only[anc]
   rw[List.getD_eq_getElem?_getD] at h4⊢
   rwa [List.getElem?_take,if_pos hlt] at h4
  ·have hjF:F[j]? =some (R j,W j):=by
    have:j<F.length:=by omega
    simp [R,W,List.getD_eq_getElem?_getD,List.getElem?_eq_getElem this]
   have:=k1J (k:=j) (r:=R j) (w:=W j) b9 (by rw[List.getElem?_take,if_pos hj];exact hjF)
   rw[eA,eR,eW];simpa using this
 have hlen:∀m,m≤ops.size→d1N (σ 0) (σ m):=by
  intro m
  induction m with
  |zero=>intro _;exact⟨rfl,rfl⟩
  |succ m ih=>
   intro hm
   obtain⟨o,b1,b2,_⟩:=st m (by omega)
   obtain⟨_,_,k3,_⟩:=i1t (s':=σ m) ⟨rfl,rfl⟩ b2 (fun _ _=>rfl)
   have:=ih (by omega)
   exact⟨this.1.trans k3.1,this.2.trans k3.2⟩
 have hkeep:∀m,m<ops.size→∀x,(W m).testBit x=false→loc (σ (m+1)) x=loc (σ m) x:=by
  intro m hm x hx
  obtain⟨o,b1,b2,b3,b4,_⟩:=st m hm
  obtain⟨_,_,_,k4,_⟩:=i1t (s':=σ m) ⟨rfl,rfl⟩ b2 (fun _ _=>rfl)
  exact k4 x (by rw[←b4];exact hx)
 have hrun:∀x j i,j≤i→i≤ops.size→(∀m,j≤m→m<i→(W m).testBit x=false)→loc (σ i) x=loc (σ j) x:=by
  intro x j i hji hi hno
  induction i with
  |zero=>have:j=0:=by omega
         subst this;rfl
  |succ i ih=>
   by_cases e:j=i+1
   ·subst e;rfl
   ·rw[hkeep i (by omega) x (hno i (by omega) (by omega))]
    exact ih (by omega) (by omega) fun m h1 h2=>hno m h1 (by omega)
 have hone:∀(S:Nat→Prop) u i,Part ops.size σ W anc S u→i<ops.size→¬S i→(∀o,ops[i]? =some o→∀e∈o.after.toList,Region.binds .any e=true→S e.on)→
   ∃o u',ops[i]? =some o∧d1p P cfg call f ops o u=some (.next u')∧Part ops.size σ W anc (fun m=>S m∨m=i) u':=by
  intro S u i hp hi hSi hed
  obtain⟨o,b1,b2,b3,b4,b5,b6,b7⟩:=st i hi
  have hanc:∀j,j<ops.size→(anc i).testBit j=true→S j:=by
   intro j hj hb
   obtain⟨e,h1,h2,h3⟩:=b5 j hb
   have hSe:=hed o b1 e h1 h2
   rcases h3 with rfl|h3
   ·exact hSe
   ·exact hp.closed e.on hSe (by have:=b6 e h1 h2;omega) j hj h3
  have hfor:∀x,((R i).testBit x=true∨(W i).testBit x=true)→∀m,S m→m<ops.size→(W m).testBit x=true→m<i:=by
   intro x hx m hm hmn hw
   rcases Nat.lt_trichotomy m i with h1|h1|h1
   ·exact h1
   ·subst h1;exact absurd hm hSi
   ·obtain⟨om,c1,c2,c3,c4,c5,c6,c7⟩:=st m hmn
    rcases c7 i h1 with h2|h2
    ·exact absurd (hp.closed m hm hmn i hi h2) hSi
    ·rcases hx with hx|hx
     ·exact absurd ⟨hx,hw⟩ (h2 x).2
     ·exact absurd ⟨hx,.inr hw⟩ (h2 x).1
  have hback:∀x,(R i).testBit x=true→∀m,m<i→(W m).testBit x=true→S m:=by
   intro x hx m hm hw
   rcases b7 m hm with h2|h2
   ·exact hanc m (by omega) h2
   ·exact absurd ⟨hw,.inl hx⟩ (h2 x).1
  have hl:d1N (σ i) u:=⟨(hlen i (by omega)).1.symm.trans hp.len.1,(hlen i (by omega)).2.symm.trans hp.len.2⟩
  obtain⟨k1,k2,k3,k4,u',k5,k6,k7,k8⟩:=i1t hl b2 (s':=u) (fun x hx=>by
   rw[←b3] at hx
   obtain⟨j,j1,j2,j3,j4⟩:=hp.places x
   rw[j3]
   have hji:j≤i:=by
    rcases j2 with j2|⟨j2,j5,j6⟩
    ·omega
    ·have:=hfor x (.inl hx) (j-1) j2 (by omega) j5;omega
   exact hrun x j i hji (by omega) fun m h1 h2=>by
    cases hw:(W m).testBit x with
    |false=>rfl
    |true=>have:=j4 m (hback x hx m h2 hw) (by omega) hw;omega)
  refine⟨o,u',b1,k5,⟨hp.len.1.trans k6.1,hp.len.2.trans k6.2⟩,fun x=>?_,?_⟩
  ·cases hx:(W i).testBit x with
   |true=>
    refine⟨i+1,by omega,.inr ⟨.inr (by omega),by simpa using hx,by omega⟩,k7 x (by rw[←b4];exact hx),fun m hm hmn hw=>?_⟩
    rcases hm with hm|hm
    ·have:=hfor x (.inr hx) m hm hmn hw;omega
    ·omega
   |false=>
    obtain⟨j,j1,j2,j3,j4⟩:=hp.places x
    refine⟨j,j1,j2.imp id fun ⟨a,b,c⟩=>⟨.inl a,b,c⟩,by rw[k8 x (by rw[←b4];exact hx)];exact j3,fun m hm hmn hw=>?_⟩
    rcases hm with hm|hm
    ·exact j4 m hm hmn hw
    ·subst hm;rw[hx] at hw;cases hw
  ·intro m hm hmn j hj hb
   rcases hm with hm|hm
   ·exact .inl (hp.closed m hm hmn j hj hb)
   ·subst hm;exact .inl (hanc j hj hb)
 have hend:∀(S:Nat→Prop) u,Part ops.size σ W anc S u→(∀m,m<ops.size→S m)→u=s':=by
  intro S u hp hall
  rw[←hn]
  refine g2Q fun x=>?_
  obtain⟨j,j1,j2,j3,j4⟩:=hp.places x
  rw[j3]
  symm
  exact hrun x j ops.size j1 (Nat.le_refl _) fun m h1 h2=>by
   cases hw:(W m).testBit x with
   |false=>rfl
   |true=>have:=j4 m (hall m h2) h2 hw;omega
 have hgo:∀(fuel t:Nat) (listed:Array Bool) (u:St),listed.size=ops.size→Part ops.size σ W anc (fun m=>listed.getD m false=true) u→
   (∃L:List Nat,L.length≤fuel∧∀j,j<ops.size→listed.getD j false=false→j∈L)→
   aops P cfg call f ops (Region.linearise.go .any ops fuel t listed []) u=some (.normal,s'):=by
  intro fuel
  induction fuel with
  |zero=>
   intro t listed u hsz hp ⟨L,hL,hL2⟩
   have:L=[]:=by simpa using hL
   subst this
   have:=hend _ u hp fun m hm=>by
    cases hc:listed.getD m false with
    |true=>rfl
    |false=>have:=hL2 m hm hc;simp at this
   simp only[Region.linearise.go,List.reverse_nil,aops,this]
  |succ fuel ih=>
   intro t listed u hsz hp ⟨L,hL,hL2⟩
   simp only[Region.linearise.go]
   change aops P cfg call f ops (match (Region.ready .any ops listed)[t%(Region.ready .any ops listed).length]? with
    |some i=>Region.linearise.go .any ops fuel (t/(Region.ready .any ops listed).length) (listed.setIfInBounds i true) [i]
    |none=>[].reverse) u=_
   cases hi:(Region.ready .any ops listed)[t%(Region.ready .any ops listed).length]? with
   |none=>
    have hnil:Region.ready .any ops listed=[]:=by
     cases hr:Region.ready .any ops listed with
     |nil=>rfl
     |cons x xs=>
      rw[hr] at hi
      have hlt:t%(x::xs).length<(x::xs).length:=Nat.mod_lt _ (by simp)
      simp at hi
      simp at hlt
      omega
    have hall:∀m,m<ops.size→listed.getD m false=true:=by
     intro m
     induction m using Nat.strongRecOn with
     |_ m ihm=>
      intro hm
      cases hc:listed.getD m false with
      |true=>rfl
      |false=>
       obtain⟨o,b1,b2,b3,b4,b5,b6,b7⟩:=st m hm
       have:m∈Region.ready .any ops listed:=by
        simp only[Region.ready,List.mem_filter,List.mem_range]
        refine⟨hm,?_⟩
        simp only[b1,Option.map_some,Option.getD_some,Bool.and_eq_true,Bool.not_eq_true']
        refine⟨?_,?_⟩
        ·have hml:m<listed.size:=by rw[hsz];exact hm
         simp [Array.getD,hml] at hc⊢;exact hc
        ·rw[Array.all_eq_true_iff_forall_mem]
         intro e he
         cases hb:Region.binds .any e with
         |false=>simp
         |true=>
          have he':e∈o.after.toList:=by simpa using he
          have h1:=b6 e he' hb
          have:=ihm e.on h1 (by omega)
          simp [this]
       rw[hnil] at this;simp at this
    have:=hend _ u hp hall
    simp only[List.reverse_nil,aops,this]
   |some i=>
    simp only[]
    rw[linearise_go_acc,List.reverse_singleton,List.singleton_append]
    have hmem:=List.mem_of_getElem? hi
    simp only[Region.ready,List.mem_filter,List.mem_range] at hmem
    obtain⟨hilt,hrest⟩:=hmem
    obtain⟨o,b1,b2,b3,b4,b5,b6,b7⟩:=st i hilt
    simp only[b1,Option.map_some,Option.getD_some,Bool.and_eq_true,Bool.not_eq_true'] at hrest
    obtain⟨hr1,hr2⟩:=hrest
    have hil:i<listed.size:=by rw[hsz];exact hilt
    have hif:listed.getD i false=false:=by simp [Array.getD,hil] at hr1⊢;exact hr1
    obtain⟨o2,u',c1,c2,c3⟩:=hone _ u i hp hilt (by rw[hif];simp) (fun o' ho' e he hb=>by
     rw[b1] at ho';cases ho'
     rw[Array.all_eq_true_iff_forall_mem] at hr2
     have:=hr2 e (by simpa using he)
     rw[hb] at this;simpa using this)
    have hset:∀m,(listed.setIfInBounds i true).getD m false=true↔(listed.getD m false=true∨m=i):=by
     intro m
     rw[Array.getD_eq_getD_getElem?,Array.getD_eq_getD_getElem?,Array.getElem?_setIfInBounds]
     by_cases e:i=m
     ·subst e;simp [hil]
     ·have e':¬m=i:=fun h=>e h.symm
      simp [e,e']
    simp only[aops,c1,c2]
    refine ih _ _ u' (by simp [hsz]) ?_ ⟨L.erase i,?_,fun j hj hjf=>?_⟩
    ·obtain⟨d1,d2,d3⟩:=c3
     refine⟨d1,fun x=>?_,fun m hm hmn j hj hb=>?_⟩
     ·obtain⟨j,j1,j2,j3,j4⟩:=d2 x
      exact⟨j,j1,j2.imp id fun ⟨a,b,c⟩=>⟨(hset _).2 a,b,c⟩,j3,fun m hm=>j4 m ((hset m).1 hm)⟩
     ·exact(hset j).2 (d3 m ((hset m).1 hm) hmn j hj hb)
    ·rw[List.length_erase_of_mem (hL2 i hilt hif)];omega
    ·have hne:j≠i:=by rintro rfl;have:=(hset j).2 (.inr rfl);rw[this] at hjf;cases hjf
     have hjf':listed.getD j false=false:=by
      cases hc:listed.getD j false with
      |false=>rfl
      |true=>have:=(hset j).2 (.inl hc);rw[this] at hjf;cases hjf
     exact(List.mem_erase_of_ne hne).2 (hL2 j hj hjf')
 unfold Region.linearise
 refine hgo ops.size t _ s (by simp) ?_ ⟨List.range ops.size,by simp,fun j hj _=>by simpa using hj⟩
 have hno:∀m,(Array.replicate ops.size false).getD m false=false:=by
  intro m
  rw[Array.getD_eq_getD_getElem?,Array.getElem?_replicate]
  split<;>rfl
 refine⟨by rw[h0];exact⟨rfl,rfl⟩,fun x=>⟨0,Nat.zero_le _,.inl rfl,by rw[h0],fun m hm=>by rw[hno m] at hm;cases hm⟩,fun m hm=>by rw[hno m] at hm;cases hm⟩
theorem t1D {f:FuncId} {ops:Array Oper}:∀(l:List Oper) (pv:Option (Nat×AV)) (i:Nat) (ancs:List Nat) (foot:List (Nat×Nat)) (s:St) (v:AV) (s':St),c1S P cfg call f ops pv l i ancs foot s=some (v,s')→ancs.length=i→foot.length=i→
  (∀q w,pv=some (q,w)→q<i)→
  ∃(A:List Nat) (F:List (Nat×Nat)) (σ:Nat→St) (p:Nat),A.take i=ancs∧F.take i=foot∧A.length=i+l.length∧F.length=i+l.length∧σ i=s∧σ (i+l.length)=s'∧(∀q w,pv=some (q,w)→p=q∧v=w)∧(pv=none→i≤p∧p<i+l.length)∧
  ∀m,i≤m→m<i+l.length→∃o R W anc,l[m-i]? =some o∧F[m]? =some (R,W)∧A[m]? =some anc∧anc=ancBits (A.take m) o.after.toList∧edgesDown m o.after.toList=true∧
   ((p<m∧anc.testBit p=true∧σ (m+1)=σ m∧R=0∧W=0)∨
    (¬(p<m∧anc.testBit p=true)∧R=d1s cfg f ops o (σ m)∧W=b1U cfg f ops o (σ m)∧apartFrom anc R W 0 (F.take m)=true∧
     ((m≠p∧d1p P cfg call f ops o (σ m)=some (.next (σ (m+1))))∨(m=p∧R.testBit 0=true∧W.testBit 0=true∧d1p P cfg call f ops o (σ m)=some (.panic v (σ (m+1))))))):=by
 intro l
 induction l with
 |nil=>
  intro pv i ancs foot s v s' h h1 h2 h3
  cases pv with
  |none=>simp [c1S] at h
  |some q=>
   obtain⟨q,w⟩:=q
   simp only[c1S,Option.some.injEq,Prod.mk.injEq] at h
   obtain⟨rfl,rfl⟩:=h
   exact⟨ancs,foot,fun _=>s,q,by simp [←h1],by simp [←h2],by simp [h1],by simp [h2],rfl,rfl,fun q' w' e=>(by cases e;exact⟨rfl,rfl⟩),fun e=>(by cases e),fun m hm hm2=>(by simp at hm2;omega)⟩
 |cons o r ih=>
  intro pv i ancs foot s v s' h h1 h2 h3
  have key:∀(pv':Option (Nat×AV)) (R W:Nat) (s1:St),c1S P cfg call f ops pv' r (i+1) (ancs++[ancBits ancs o.after.toList]) (foot++[(R,W)]) s1=some (v,s')→
    (∀q w,pv'=some (q,w)→q<i+1)→edgesDown i o.after.toList=true→
    (∀q w,pv=some (q,w)→pv'=some (q,w))→(pv=none→pv'=none∨∃w,pv'=some (i,w))→
    (∀p,(∀q w,pv'=some (q,w)→p=q∧v=w)→(pv'=none→i+1≤p)→
     ((p<i∧(ancBits ancs o.after.toList).testBit p=true∧s1=s∧R=0∧W=0)∨
      (¬(p<i∧(ancBits ancs o.after.toList).testBit p=true)∧R=d1s cfg f ops o s∧W=b1U cfg f ops o s∧apartFrom (ancBits ancs o.after.toList) R W 0 foot=true∧
       ((i≠p∧d1p P cfg call f ops o s=some (.next s1))∨(i=p∧R.testBit 0=true∧W.testBit 0=true∧d1p P cfg call f ops o s=some (.panic v s1))))))→
    ∃(A:List Nat) (F:List (Nat×Nat)) (σ:Nat→St) (p:Nat),A.take i=ancs∧F.take i=foot∧A.length=i+(o::r).length∧F.length=i+(o::r).length∧σ i=s∧σ (i+(o::r).length)=s'∧(∀q w,pv=some (q,w)→p=q∧v=w)∧(pv=none→i≤p∧p<i+(o::r).length)∧
    ∀m,i≤m→m<i+(o::r).length→∃o' R W anc,(o::r)[m-i]? =some o'∧F[m]? =some (R,W)∧A[m]? =some anc∧anc=ancBits (A.take m) o'.after.toList∧edgesDown m o'.after.toList=true∧
     ((p<m∧anc.testBit p=true∧σ (m+1)=σ m∧R=0∧W=0)∨
      (¬(p<m∧anc.testBit p=true)∧R=d1s cfg f ops o' (σ m)∧W=b1U cfg f ops o' (σ m)∧apartFrom anc R W 0 (F.take m)=true∧
       ((m≠p∧d1p P cfg call f ops o' (σ m)=some (.next (σ (m+1))))∨(m=p∧R.testBit 0=true∧W.testBit 0=true∧d1p P cfg call f ops o' (σ m)=some (.panic v (σ (m+1))))))):=by
   intro pv' R W s1 hr hlt hed hpv1 hpv2 hstep
   obtain⟨A,F,σ,p,a1,a2,a3,a4,a5,a6,a7,a8,a9⟩:=ih pv' (i+1) _ _ s1 v s' hr (by simp [h1]) (by simp [h2]) hlt
   have eA:A.take i=ancs:=by
    have:=congrArg (List.take i) a1
    rw[List.take_take,Nat.min_eq_left (by omega),List.take_append_of_le_length (by omega),List.take_of_length_le (l:=ancs) (by omega)] at this
    exact this
   have eF:F.take i=foot:=by
    have:=congrArg (List.take i) a2
    rw[List.take_take,Nat.min_eq_left (by omega),List.take_append_of_le_length (by omega),List.take_of_length_le (l:=foot) (by omega)] at this
    exact this
   have gA:A[i]? =some (ancBits ancs o.after.toList):=by
    have:=congrArg (fun l=>l[i]?) a1
    simp only[List.getElem?_take,if_pos (Nat.lt_succ_self i)] at this
    rw[this,List.getElem?_append_right (by omega)];simp [h1]
   have gF:F[i]? =some (R,W):=by
    have:=congrArg (fun l=>l[i]?) a2
    simp only[List.getElem?_take,if_pos (Nat.lt_succ_self i)] at this
    rw[this,List.getElem?_append_right (by omega)];simp [h2]
   have hst:=hstep p a7 (fun e=>(a8 e).1)
   refine⟨A,F,fun j=>if j=i then s else σ j,p,eA,eF,by simp [a3];omega,by simp [a4];omega,by simp,?_,fun q w e=>a7 q w (hpv1 q w e),fun e=>?_,fun m hm hm2=>?_⟩
   ·show (if i+(o::r).length=i then s else σ (i+(o::r).length))=s'
    rw[if_neg (by simp)]
    rw[show i+(o::r).length=i+1+r.length by simp;omega];exact a6
   ·rcases hpv2 e with e'|⟨w,e'⟩
    ·have:=a8 e';simp only[List.length_cons];omega
    ·have:=(a7 _ _ e').1;subst this;simp only[List.length_cons];omega
   ·by_cases e:m=i
    ·subst e
     refine⟨o,R,W,_,by simp,gF,gA,by rw[eA],hed,?_⟩
     simp only[if_true,Nat.succ_ne_self,if_false,a5,eF]
     exact hst
    ·obtain⟨o',R',W',anc,b1,b2,b3,b4,b5,b6⟩:=a9 m (by omega) (by simp at hm2;omega)
     refine⟨o',R',W',anc,?_,b2,b3,b4,b5,?_⟩
     ·have:m-i=(m-(i+1))+1:=by omega
      rw[this];simpa using b1
     ·simp only[if_neg e,if_neg (show ¬m+1=i by omega)];exact b6
  simp only[c1S] at h
  split at h
  ·cases h
  ·rename_i hed
   split at h
   ·rename_i hb
    cases pv with
    |none=>simp [i1b] at hb
    |some q=>
     obtain⟨q,w⟩:=q
     simp only[i1b] at hb
     have hq:=h3 q w rfl
     refine key _ 0 0 s h (fun q' w' e=>by have:=h3 q' w' e;omega) hed (fun q w e=>e) (fun e=>by cases e) fun p hp _=>?_
     have hpq:=(hp q w rfl).1
     subst hpq
     exact .inl ⟨hq,hb,rfl,rfl,rfl⟩
   ·rename_i hb
    split at h
    ·cases h
    ·rename_i hap
     have hnb:∀p,(∀q w,pv=some (q,w)→p=q)→(pv=none→i≤p)→¬(p<i∧(ancBits ancs o.after.toList).testBit p=true):=by
      intro p hp hp2 ⟨c1,c2⟩
      cases pv with
      |none=>have:=hp2 rfl;omega
      |some q=>
       obtain⟨q,w⟩:=q
       have:=hp q w rfl
       subst this
       simp only[i1b] at hb
       rw[hb] at c2;cases c2
     split at h
     ·rename_i s1 hs
      refine key _ _ _ s1 h (fun q' w' e=>by have:=h3 q' w' e;omega) hed (fun q w e=>e) (fun e=>.inl e) fun p hp hp2=>.inr ⟨hnb p (fun q w e=>(hp q w e).1) (fun e=>by have:=hp2 e;omega),rfl,rfl,hap,.inl ⟨?_,hs⟩⟩
      rintro rfl
      cases pv with
      |none=>have:=hp2 rfl;omega
      |some q=>obtain⟨q,w⟩:=q;have:=(hp q w rfl).1;have:=h3 q w rfl;omega
     ·rename_i v1 s1 hs
      split at h
      ·rename_i hrw
       simp only[Bool.and_eq_true] at hrw
       refine key _ _ _ s1 h (fun q' w' e=>by cases e;omega) hed (fun q w e=>by cases e) (fun e=>.inr ⟨_,rfl⟩) fun p hp hp2=>?_
       obtain⟨rfl,rfl⟩:=hp i v1 rfl
       exact .inr ⟨fun hh=>by omega,rfl,rfl,hap,.inr ⟨rfl,hrw.1,hrw.2,hs⟩⟩
      ·cases h
     ·cases h
theorem v1C {f:FuncId} {ops:Array Oper} {s s':St} {v:AV} (h:c1S P cfg call f ops none ops.toList 0 [] [] s=some (v,s')) (t:Nat):
  ∃u',aops P cfg call f ops (Region.linearise .any ops t) s=some (.panic v,u')∧u'.g=s'.g∧d1N s' u':=by
 obtain⟨A,F,σ,p,_,_,hA,hF,h0,hn,_,hpp,tr⟩:=t1D ops.toList none 0 [] [] s v s' h rfl rfl (fun q w e=>by cases e)
 have hsz:ops.toList.length=ops.size:=by simp
 have hpn:p<ops.size:=by have:=(hpp rfl).2;omega
 simp only[Nat.zero_add] at hA hF hn tr
 rw[hsz] at hA hF hn tr
 let W:Nat→Nat:=fun m=>(F.getD m (0,0)).2
 let R:Nat→Nat:=fun m=>(F.getD m (0,0)).1
 let anc:Nat→Nat:=fun m=>A.getD m 0
 let N:Nat→Prop:=fun m=>¬(p<m∧(anc m).testBit p=true)
 have st:∀m,m<ops.size→∃o,ops[m]? =some o∧
   (∀j,(anc m).testBit j=true→∃e∈o.after.toList,Region.binds .any e=true∧(e.on=j∨(anc e.on).testBit j=true))∧(∀e∈o.after.toList,Region.binds .any e=true→e.on<m)∧
   ((¬N m∧σ (m+1)=σ m∧W m=0)∨
    (N m∧R m=d1s cfg f ops o (σ m)∧W m=b1U cfg f ops o (σ m)∧
    (∀j,j<m→(anc m).testBit j=true∨∀x,¬((W j).testBit x=true∧((R m).testBit x=true∨(W m).testBit x=true))∧¬((R j).testBit x=true∧(W m).testBit x=true))∧
    ((m≠p∧d1p P cfg call f ops o (σ m)=some (.next (σ (m+1))))∨(m=p∧(R m).testBit 0=true∧(W m).testBit 0=true∧d1p P cfg call f ops o (σ m)=some (.panic v (σ (m+1))))))):=by
  intro m hm
  obtain⟨o,r,wv,an,b1,b2,b3,b4,b5,b6⟩:=tr m (Nat.zero_le _) hm
  have eW:W m=wv:=by simp [W,List.getD_eq_getElem?_getD,b2]
  have eR:R m=r:=by simp [R,List.getD_eq_getElem?_getD,b2]
  have eA:anc m=an:=by simp [anc,List.getD_eq_getElem?_getD,b3]
  refine⟨o,by simpa using b1,fun j hj=>?_,g1h b5,?_⟩
  ·rw[eA,b4] at hj
   obtain⟨e,h1,h2,h3⟩:=n1q hj
   refine⟨e,h1,h2,h3.imp id fun h4=>?_⟩
   have hlt:=g1h b5 e h1 h2
   simp only[anc]
   rw[List.getD_eq_getElem?_getD] at h4⊢
   rwa [List.getElem?_take,if_pos hlt] at h4
  ·simp only[N,eA,eW,eR]
   rcases b6 with ⟨c1,c2,c3,c4,c5⟩|⟨c1,c2,c3,c4,c5⟩
   ·exact .inl ⟨fun hh=>hh ⟨c1,c2⟩,c3,c5⟩
   ·refine .inr ⟨c1,c2,c3,fun j hj=>?_,c5⟩
    have hjF:F[j]? =some (R j,W j):=by
     have:j<F.length:=by omega
     simp [R,W,List.getD_eq_getElem?_getD,List.getElem?_eq_getElem this]
    have:=k1J (k:=j) (r:=R j) (w:=W j) c4 (by rw[List.getElem?_take,if_pos hj];exact hjF)
    simpa using this
 have hstep:∀m,m<ops.size→d1N (σ m) (σ (m+1))∧∀x,(W m).testBit x=false→loc (σ (m+1)) x=loc (σ m) x:=by
  intro m hm
  obtain⟨o,b1,_,_,b4⟩:=st m hm
  rcases b4 with ⟨_,c2,_⟩|⟨_,c2,c3,_,c5⟩
  ·rw[c2];exact⟨⟨rfl,rfl⟩,fun _ _=>rfl⟩
  ·rw[c3]
   rcases c5 with ⟨_,c6⟩|⟨_,c6,c7,c8⟩
   ·obtain⟨_,_,k3,k4,_⟩:=i1t (s':=σ m) ⟨rfl,rfl⟩ c6 (fun _ _=>rfl)
    exact⟨k3,k4⟩
   ·rw[c2] at c6;rw[c3] at c7
    obtain⟨k3,k4,_⟩:=q1X (s':=σ m) ⟨rfl,rfl⟩ c8 (fun _ _=>rfl) c6 c7
    exact⟨k3,k4⟩
 have hlen:∀m,m≤ops.size→d1N (σ 0) (σ m):=by
  intro m
  induction m with
  |zero=>intro _;exact⟨rfl,rfl⟩
  |succ m ih=>
   intro hm
   have:=ih (by omega)
   have k3:=(hstep m (by omega)).1
   exact⟨this.1.trans k3.1,this.2.trans k3.2⟩
 have hrun:∀x j i,j≤i→i≤ops.size→(∀m,j≤m→m<i→(W m).testBit x=false)→loc (σ i) x=loc (σ j) x:=by
  intro x j i hji hi hno
  induction i with
  |zero=>have:j=0:=by omega
         subst this;rfl
  |succ i ih=>
   by_cases e:j=i+1
   ·subst e;rfl
   ·rw[(hstep i (by omega)).2 x (hno i (by omega) (by omega))]
    exact ih (by omega) (by omega) fun m h1 h2=>hno m h1 (by omega)
 have hagree:∀(S:Nat→Prop) u i,Part ops.size σ W anc S u→(∀m,S m→m<ops.size→N m∧m≠p)→i<ops.size→N i→¬S i→(∀o,ops[i]? =some o→∀e∈o.after.toList,Region.binds .any e=true→S e.on)→
   (∀x,(R i).testBit x=true→loc (σ i) x=loc u x)∧(∀j,j<ops.size→(anc i).testBit j=true→S j)∧(∀x,(W i).testBit x=true→∀m,S m→m<ops.size→(W m).testBit x=true→m<i):=by
  intro S u i hp hSN hi hNi hSi hed
  obtain⟨o,b1,b5,b6,b7⟩:=st i hi
  rcases b7 with ⟨c1,_⟩|⟨_,b3,b4,b7,_⟩
  ·exact absurd hNi c1
  have hanc:∀j,j<ops.size→(anc i).testBit j=true→S j:=by
   intro j hj hb
   obtain⟨e,h1,h2,h3⟩:=b5 j hb
   have hSe:=hed o b1 e h1 h2
   rcases h3 with rfl|h3
   ·exact hSe
   ·exact hp.closed e.on hSe (by have:=b6 e h1 h2;omega) j hj h3
  have hfor:∀x,((R i).testBit x=true∨(W i).testBit x=true)→∀m,S m→m<ops.size→(W m).testBit x=true→m<i:=by
   intro x hx m hm hmn hw
   rcases Nat.lt_trichotomy m i with h1|h1|h1
   ·exact h1
   ·subst h1;exact absurd hm hSi
   ·obtain⟨om,c1,c5,c6,c7⟩:=st m hmn
    rcases c7 with ⟨d1,_⟩|⟨_,d3,d4,c7,_⟩
    ·exact absurd (hSN m hm hmn).1 d1
    rcases c7 i h1 with h2|h2
    ·exact absurd (hp.closed m hm hmn i hi h2) hSi
    ·rcases hx with hx|hx
     ·exact absurd ⟨hx,hw⟩ (h2 x).2
     ·exact absurd ⟨hx,.inr hw⟩ (h2 x).1
  have hback:∀x,(R i).testBit x=true→∀m,m<i→(W m).testBit x=true→S m:=by
   intro x hx m hm hw
   rcases b7 m hm with h2|h2
   ·exact hanc m (by omega) h2
   ·exact absurd ⟨hw,.inl hx⟩ (h2 x).1
  refine⟨fun x hx=>?_,hanc,fun x hx=>hfor x (.inr hx)⟩
  obtain⟨j,j1,j2,j3,j4⟩:=hp.places x
  rw[j3]
  have hji:j≤i:=by
   rcases j2 with j2|⟨j2,j5,j6⟩
   ·omega
   ·have:=hfor x (.inl hx) (j-1) j2 (by omega) j5;omega
  exact hrun x j i hji (by omega) fun m h1 h2=>by
   cases hw:(W m).testBit x with
   |false=>rfl
   |true=>have:=j4 m (hback x hx m h2 hw) (by omega) hw;omega
 have hone:∀(S:Nat→Prop) u i,Part ops.size σ W anc S u→(∀m,S m→m<ops.size→N m∧m≠p)→i<ops.size→N i→i≠p→¬S i→(∀o,ops[i]? =some o→∀e∈o.after.toList,Region.binds .any e=true→S e.on)→
   ∃o u',ops[i]? =some o∧d1p P cfg call f ops o u=some (.next u')∧Part ops.size σ W anc (fun m=>S m∨m=i) u':=by
  intro S u i hp hSN hi hNi hip hSi hed
  obtain⟨hag,hanc,hforW⟩:=hagree S u i hp hSN hi hNi hSi hed
  obtain⟨o,b1,b5,b6,b7⟩:=st i hi
  rcases b7 with ⟨c1,_⟩|⟨_,b3,b4,b7,b8⟩
  ·exact absurd hNi c1
  rcases b8 with ⟨_,b2⟩|⟨c1,_⟩
  rotate_left
  ·exact absurd c1 hip
  have hl:d1N (σ i) u:=⟨(hlen i (by omega)).1.symm.trans hp.len.1,(hlen i (by omega)).2.symm.trans hp.len.2⟩
  obtain⟨k1,k2,k3,k4,u',k5,k6,k7,k8⟩:=i1t hl b2 (s':=u) (fun x hx=>by rw[←b3] at hx;exact hag x hx)
  refine⟨o,u',b1,k5,⟨hp.len.1.trans k6.1,hp.len.2.trans k6.2⟩,fun x=>?_,?_⟩
  ·cases hx:(W i).testBit x with
   |true=>
    refine⟨i+1,by omega,.inr ⟨.inr (by omega),by simpa using hx,by omega⟩,k7 x (by rw[←b4];exact hx),fun m hm hmn hw=>?_⟩
    rcases hm with hm|hm
    ·have:=hforW x hx m hm hmn hw;omega
    ·omega
   |false=>
    obtain⟨j,j1,j2,j3,j4⟩:=hp.places x
    refine⟨j,j1,j2.imp id fun ⟨a,b,c⟩=>⟨.inl a,b,c⟩,by rw[k8 x (by rw[←b4];exact hx)];exact j3,fun m hm hmn hw=>?_⟩
    rcases hm with hm|hm
    ·exact j4 m hm hmn hw
    ·subst hm;rw[hx] at hw;cases hw
  ·intro m hm hmn j hj hb
   rcases hm with hm|hm
   ·exact .inl (hp.closed m hm hmn j hj hb)
   ·subst hm;exact .inl (hanc j hj hb)
 have hend:∀(S:Nat→Prop) u,Part ops.size σ W anc S u→(∀m,S m→m<ops.size→N m∧m≠p)→(∀o,ops[p]? =some o→∀e∈o.after.toList,Region.binds .any e=true→S e.on)→
   ∃o u',ops[p]? =some o∧d1p P cfg call f ops o u=some (.panic v u')∧u'.g=s'.g∧d1N s' u':=by
  intro S u hp hSN hed
  have hNp:N p:=fun hh=>by omega
  obtain⟨hag,_,_⟩:=hagree S u p hp hSN hpn hNp (fun hh=>(hSN p hh hpn).2 rfl) hed
  obtain⟨o,b1,b5,b6,b7⟩:=st p hpn
  rcases b7 with ⟨c1,_⟩|⟨_,b3,b4,b7,b8⟩
  ·exact absurd hNp c1
  rcases b8 with ⟨c1,_⟩|⟨_,c6,c7,c8⟩
  ·exact absurd rfl c1
  have hl:d1N (σ p) u:=⟨(hlen p (by omega)).1.symm.trans hp.len.1,(hlen p (by omega)).2.symm.trans hp.len.2⟩
  have c6':=c6;have c7':=c7
  rw[b3] at c6';rw[b4] at c7'
  obtain⟨_,_,u',k1,k2,k3⟩:=q1X hl c8 (s':=u) (fun x hx=>by rw[←b3] at hx;exact hag x hx) c6' c7'
  refine⟨o,u',b1,k1,?_,?_⟩
  ·have:loc (σ ops.size) 0=loc (σ (p+1)) 0:=hrun 0 (p+1) ops.size (by omega) (Nat.le_refl _) fun m h1 h2=>by
    obtain⟨om,d1,d5,d6,d7⟩:=st m h2
    rcases d7 with ⟨_,_,d8⟩|⟨d8,d3,d4,d7,_⟩
    ·rw[d8];exact Nat.zero_testBit 0
    ·rcases d7 p (by omega) with d9|d9
     ·exact absurd ⟨by omega,d9⟩ d8
     ·cases hw:(W m).testBit 0 with
      |false=>rfl
      |true=>exact absurd ⟨c6,hw⟩ (d9 0).2
   rw[hn] at this
   simp only[v1z,LVal.g.injEq] at this
   rw[k3,this]
  ·have h1:=hlen ops.size (Nat.le_refl _)
   rw[hn] at h1
   exact⟨h1.1.symm.trans (hp.len.1.trans k2.1),h1.2.symm.trans (hp.len.2.trans k2.2)⟩
 have hgo:∀(fuel t:Nat) (listed:Array Bool) (u:St),listed.size=ops.size→Part ops.size σ W anc (fun m=>listed.getD m false=true) u→(∀m,listed.getD m false=true→m<ops.size→N m∧m≠p)→
   (∃L:List Nat,L.length≤fuel∧∀j,j<ops.size→listed.getD j false=false→j∈L)→
   ∃u',aops P cfg call f ops (Region.linearise.go .any ops fuel t listed []) u=some (.panic v,u')∧u'.g=s'.g∧d1N s' u':=by
  intro fuel
  induction fuel with
  |zero=>
   intro t listed u hsz hp hSN ⟨L,hL,hL2⟩
   have:L=[]:=by simpa using hL
   subst this
   cases hc:listed.getD p false with
   |true=>exact absurd rfl (hSN p hc hpn).2
   |false=>have:=hL2 p hpn hc;simp at this
  |succ fuel ih=>
   intro t listed u hsz hp hSN ⟨L,hL,hL2⟩
   simp only[Region.linearise.go]
   change ∃u',aops P cfg call f ops (match (Region.ready .any ops listed)[t%(Region.ready .any ops listed).length]? with
    |some i=>Region.linearise.go .any ops fuel (t/(Region.ready .any ops listed).length) (listed.setIfInBounds i true) [i]
    |none=>[].reverse) u=_∧_
   cases hi:(Region.ready .any ops listed)[t%(Region.ready .any ops listed).length]? with
   |none=>
    have hnil:Region.ready .any ops listed=[]:=by
     cases hr:Region.ready .any ops listed with
     |nil=>rfl
     |cons x xs=>
      rw[hr] at hi
      have hlt:t%(x::xs).length<(x::xs).length:=Nat.mod_lt _ (by simp)
      simp at hi
      simp at hlt
      omega
    have hall:∀m,m<ops.size→listed.getD m false=true:=by
     intro m
     induction m using Nat.strongRecOn with
     |_ m ihm=>
      intro hm
      cases hc:listed.getD m false with
      |true=>rfl
      |false=>
       obtain⟨o,b1,b5,b6,b7⟩:=st m hm
       have:m∈Region.ready .any ops listed:=by
        simp only[Region.ready,List.mem_filter,List.mem_range]
        refine⟨hm,?_⟩
        simp only[b1,Option.map_some,Option.getD_some,Bool.and_eq_true,Bool.not_eq_true']
        refine⟨?_,?_⟩
        ·have hml:m<listed.size:=by rw[hsz];exact hm
         simp [Array.getD,hml] at hc⊢;exact hc
        ·rw[Array.all_eq_true_iff_forall_mem]
         intro e he
         cases hb:Region.binds .any e with
         |false=>simp
         |true=>
          have he':e∈o.after.toList:=by simpa using he
          have h1:=b6 e he' hb
          have:=ihm e.on h1 (by omega)
          simp [this]
       rw[hnil] at this;simp at this
    exact absurd rfl (hSN p (hall p hpn) hpn).2
   |some i=>
    simp only[]
    rw[linearise_go_acc,List.reverse_singleton,List.singleton_append]
    have hmem:=List.mem_of_getElem? hi
    simp only[Region.ready,List.mem_filter,List.mem_range] at hmem
    obtain⟨hilt,hrest⟩:=hmem
    obtain⟨o,b1,b5,b6,b7⟩:=st i hilt
    simp only[b1,Option.map_some,Option.getD_some,Bool.and_eq_true,Bool.not_eq_true'] at hrest
    obtain⟨hr1,hr2⟩:=hrest
    have hil:i<listed.size:=by rw[hsz];exact hilt
    have hif:listed.getD i false=false:=by simp [Array.getD,hil] at hr1⊢;exact hr1
    have hed:∀o',ops[i]? =some o'→∀e∈o'.after.toList,Region.binds .any e=true→listed.getD e.on false=true:=fun o' ho' e he hb=>by
     rw[b1] at ho';cases ho'
     rw[Array.all_eq_true_iff_forall_mem] at hr2
     have:=hr2 e (by simpa using he)
     rw[hb] at this;simpa using this
    by_cases hip:i=p
    ·subst hip
     obtain⟨o2,u',c1,c2,c3⟩:=hend _ u hp hSN hed
     refine⟨u',?_,c3⟩
     simp only[aops,c1,c2]
    ·have hNi:N i:=fun ⟨d1,d2⟩=>by
      obtain⟨e,e1,e2,e3⟩:=b5 p d2
      have hSe:=hed o b1 e e1 e2
      rcases e3 with e3|e3
      ·rw[e3] at hSe;exact(hSN p hSe hpn).2 rfl
      ·exact(hSN p (hp.closed e.on hSe (by have:=b6 e e1 e2;omega) p hpn e3) hpn).2 rfl
     obtain⟨o2,u',c1,c2,c3⟩:=hone _ u i hp hSN hilt hNi hip (by rw[hif];simp) hed
     have hset:∀m,(listed.setIfInBounds i true).getD m false=true↔(listed.getD m false=true∨m=i):=by
      intro m
      rw[Array.getD_eq_getD_getElem?,Array.getD_eq_getD_getElem?,Array.getElem?_setIfInBounds]
      by_cases e:i=m
      ·subst e;simp [hil]
      ·have e':¬m=i:=fun h=>e h.symm
       simp [e,e']
     simp only[aops,c1,c2]
     refine ih _ _ u' (by simp [hsz]) ?_ (fun m hm hmn=>?_) ⟨L.erase i,?_,fun j hj hjf=>?_⟩
     ·obtain⟨d1,d2,d3⟩:=c3
      refine⟨d1,fun x=>?_,fun m hm hmn j hj hb=>?_⟩
      ·obtain⟨j,j1,j2,j3,j4⟩:=d2 x
       exact⟨j,j1,j2.imp id fun ⟨a,b,c⟩=>⟨(hset _).2 a,b,c⟩,j3,fun m hm=>j4 m ((hset m).1 hm)⟩
      ·exact(hset j).2 (d3 m ((hset m).1 hm) hmn j hj hb)
     ·rcases (hset m).1 hm with hm|rfl
      ·exact hSN m hm hmn
      ·exact⟨hNi,hip⟩
     ·rw[List.length_erase_of_mem (hL2 i hilt hif)];omega
     ·have hne:j≠i:=by rintro rfl;have:=(hset j).2 (.inr rfl);rw[this] at hjf;cases hjf
      have hjf':listed.getD j false=false:=by
       cases hc:listed.getD j false with
       |false=>rfl
       |true=>have:=(hset j).2 (.inl hc);rw[this] at hjf;cases hjf
      exact(List.mem_erase_of_ne hne).2 (hL2 j hj hjf')
 unfold Region.linearise
 have hno:∀m,(Array.replicate ops.size false).getD m false=false:=by
  intro m
  rw[Array.getD_eq_getD_getElem?,Array.getElem?_replicate]
  split<;>rfl
 refine hgo ops.size t _ s (by simp) ?_ (fun m hm=>by rw[hno m] at hm;cases hm) ⟨List.range ops.size,by simp,fun j hj _=>by simpa using hj⟩
 refine⟨by rw[h0];exact⟨rfl,rfl⟩,fun x=>⟨0,Nat.zero_le _,.inl rfl,by rw[h0],fun m hm=>by rw[hno m] at hm;cases hm⟩,fun m hm=>by rw[hno m] at hm;cases hm⟩
end
end Go.Eng
end
