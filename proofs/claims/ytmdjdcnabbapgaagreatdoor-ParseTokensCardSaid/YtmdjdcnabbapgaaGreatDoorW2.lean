/- Texts of this proof folded into one: E4 E5 E6 E7 E8 E9. -/
import Derived.Test.YtmdjdcnabbapgaaGreatDoorW1
import Derived.Laws.Tables
section
/-
  THE ENGINE, part 4: operations that make memory: structs built, slices built, made and appended to, boxes that nobody writes.
-/
set_option linter.unusedVariables false
set_option linter.unusedSimpArgs false
namespace Go.Eng
section
variable {P:Program} {I:Mem} {μ:List Nat} {lh:List (Option LCell)} {lv:List LV} {w:World}
theorem y1O {ws:List Value} {asq:List AV} {off:Nat} (hw:RepL I μ ws asq) (ho:OneCells ws):∀{cells:Array Value} {acells:List AV} (j:Nat),RepL I μ cells.toList acells→OneCells cells.toList→
  RepL I μ ((ws.zipIdx j).foldl (fun (cs:Array Value) (c,j)=>cs.setIfInBounds (off+j) c) cells).toList (b1M acells (off+j) asq)∧
  OneCells ((ws.zipIdx j).foldl (fun (cs:Array Value) (c,j)=>cs.setIfInBounds (off+j) c) cells).toList:=by
 induction ws generalizing asq with
 |nil=>intro cells acells j h1 h2;cases hw;exact⟨h1,h2⟩
 |cons w ws ih=>
  intro cells acells j h1 h2
  cases asq with
  |nil=>cases hw
  |cons a asq=>
   obtain⟨ha,hw'⟩:=hw.uncons
   simp only[List.zipIdx_cons,List.foldl_cons,b1M]
   refine ih hw' (fun v hv=>ho v (by simp [hv])) (j+1) ?_ ?_
   ·simpa using h1.set (off+j) ha
   ·intro v hv
    simp only[Array.toList_setIfInBounds] at hv
    rcases List.mem_or_eq_of_mem_set hv with h|h
    ·exact h2 v h
    ·subst h;exact ho _ (by simp)
theorem l1c {t:TypeId} {place:Nat→Option (Nat×Nat)} (hp:∀i p,place? P t i=some p→place i=some p) {α:Type} (ρ:α→Value):
  ∀(ps:List (Nat×α)) {avs:List AV} {cells:Array Value} {acells r:List AV},RepL I μ (ps.map fun p=>ρ p.2) avs→RepL I μ cells.toList acells→OneCells cells.toList→
   l1w P t acells (f1t ps avs)=some r→∃cells',Instr.fill place cells (ps.map fun p=>(p.1,ρ p.2))=some cells'∧RepL I μ cells'.toList r∧OneCells cells'.toList∧cells'.size=cells.size:=by
 intro ps
 induction ps with
 |nil=>intro avs cells acells r hv hc ho h;simp [f1t,l1w] at h;subst h;exact⟨cells,rfl,hc,ho,rfl⟩
 |cons p ps ih=>
  intro avs cells acells r hv hc ho h
  obtain⟨i,x⟩:=p
  cases avs with
  |nil=>have:=hv.length;simp at this
  |cons a avs=>
   obtain⟨ha,hv'⟩:=hv.uncons
   simp only[f1t,l1w] at h
   split at h
   ·rename_i off n cs hpl hcs
    split at h
    ·rename_i hb
     obtain⟨hn,hle⟩:=hb
     obtain⟨hr,hone⟩:=l1J ha hcs
     have hlen:(ρ x).cells.size=n:=by have:=hr.length;simp at this;omega
     have hcl:cells.size=acells.length:=by have:=hc.length;simpa using this
     have hw:=y1O (off:=off) hr.dis hone 0 hc ho
     obtain⟨cells',h1,h2,h3,h4⟩:=ih hv' hw.1 hw.2 h
     refine⟨cells',?_,h2,h3,?_⟩
     ·simp only[List.map_cons,Instr.fill,hp i _ hpl]
      rw[if_neg (by simp;omega)]
      rw[←h1]
      congr 1
      rw[←Array.foldl_toList,Array.toList_zipIdx]
     ·rw[h4]
      have:∀(l:List (Value×Nat)) (c:Array Value),(l.foldl (fun (cs:Array Value) (c,j)=>cs.setIfInBounds (off+j) c) c).size=c.size:=by
       intro l;induction l with
       |nil=>intro c;rfl
       |cons x l ih=>intro c;rw[List.foldl_cons,ih];simp
      exact this _ _
    ·cases h
   ·cases h
theorem l1V {t:TypeId} {z:Value} (h:(P.info? t).bind (·.zero)=some z) (w:World):(zeroValue t).run P w=.ok z w:=by
 cases hi:P.info? t with
 |none=>simp [hi] at h
 |some i=>simp [hi] at h;simp [zeroValue,typeInfo,hi,h]
theorem e2x {α β:Type} (f:α→Sem β) (g:α→β) (l:List α) (w:World) (h:∀x∈l,(f x).run P w=.ok (g x) w):(l.mapM f).run P w=.ok (l.map g) w:=by
 induction l with
 |nil=>simp
 |cons x l ih=>
  rw[List.mapM_cons]
  simp [h x (by simp),ih fun y hy=>h y (by simp [hy])]
theorem v1W {α β:Type} (f:α→Sem β) (g:α→β) (l:Array α) (w:World) (h:∀x∈l.toList,(f x).run P w=.ok (g x) w):(l.mapM f).run P w=.ok (l.map g) w:=by
 rw[Array.mapM_eq_mapM_toList]
 simp [e2x f g l.toList w h]
 apply Array.ext';simp
theorem j1f {t:TypeId} {cs:List AV} (h:zeroCells P t=some cs):∃z,(P.info? t).bind (·.zero)=some z∧RepL I μ z.cells.toList cs∧OneCells z.cells.toList:=by
 unfold zeroCells at h
 split at h
 ·rename_i z hz
  split at h
  ·rename_i ho;simp only[Option.some.injEq] at h;subst h;exact⟨z,hz,.ofCells _,fun v hv=>List.all_eq_true.1 ho v hv⟩
  ·cases h
 ·cases h
theorem u1v {t:TypeId} (ps:Array (Nat×Operand)) {ρ:Operand→Value} {avs:List AV} {r:AV} (hv:RepL I μ (ps.toList.map fun p=>ρ p.2) avs) (h:q1W P t (f1t ps.toList avs)=some r):
  ∃v',(Instr.build t (ps.map fun (i,x)=>(i,ρ x))).run P w=.ok v' w∧Rep I μ v' r∧NoOwn r:=by
 unfold q1W at h
 split at h
 ·rename_i fs hd
  split at h
  ·rename_i hall
   split at h
   ·rename_i z hz
    simp only[Option.map_eq_some_iff] at h
    obtain⟨cs,hcs,rfl⟩:=h
    obtain⟨zv,hzv,hzr,hzo⟩:=j1f (I:=I) (μ:=μ) hz
    have hpl:∀i p,place? P t i=some p→((fs.map fun f=>(f.offset,(size? P f.type).getD 0))[i]?)=some p:=by
     intro i p hp
     simp only[place?,hd] at hp
     cases hf:fs[i]? with
     |none=>simp [hf] at hp
     |some f=>
      simp [hf] at hp
      obtain⟨n,hn,rfl⟩:=hp
      simp [hf,hn]
    obtain⟨cells',h1,h2,h3,_⟩:=l1c (P:=P) (t:=t) (place:=fun i=>(fs.map fun f=>(f.offset,(size? P f.type).getD 0))[i]?) hpl ρ ps.toList hv hzr hzo hcs
    refine⟨.agg cells',?_,.agg _ _ h3 h2 .nil,fun s r h=>by cases h⟩
    have hm:(fs.mapM fun f=>do pure (f.offset,←sizeOf f.type):Sem (Array (Nat×Nat))).run P w=.ok (fs.map fun f=>(f.offset,(size? P f.type).getD 0)) w:=by
     refine v1W _ _ fs w fun f hf=>?_
     have:=List.all_eq_true.1 hall f hf
     obtain⟨n,hn⟩:=Option.isSome_iff_exists.1 this
     simp [e1B hn,hn]
    have h1':Instr.fill (fun i=>(fs.map fun f=>(f.offset,(size? P f.type).getD 0))[i]?) zv.cells (ps.map fun (i,x)=>(i,ρ x)).toList=some cells':=by
     rw[←h1];simp
    simp only[Instr.build,Sem.run_bind,l1V hzv,Result.andThen_ok,run_underlying hd,hm,h1']
    rfl
   ·cases h
  ·cases h
 ·rename_i len e hd
  split at h
  ·rename_i z n hz hn
   simp only[Option.map_eq_some_iff] at h
   obtain⟨cs,hcs,rfl⟩:=h
   obtain⟨zv,hzv,hzr,hzo⟩:=j1f (I:=I) (μ:=μ) hz
   have hpl:∀i p,place? P t i=some p→(fun i=>some (i*n,n)) i=some p:=by
    intro i p hp
    simpa [place?,hd,hn] using hp
   obtain⟨cells',h1,h2,h3,_⟩:=l1c (P:=P) (t:=t) hpl ρ ps.toList hv hzr hzo hcs
   refine⟨.agg cells',?_,.agg _ _ h3 h2 .nil,fun s r h=>by cases h⟩
   have h1':Instr.fill (fun i=>some (i*n,n)) zv.cells (ps.map fun (i,x)=>(i,ρ x)).toList=some cells':=by
    rw[←h1];simp
   simp only[Instr.build,Sem.run_bind,l1V hzv,Result.andThen_ok,run_underlying hd,e1B hn,h1']
   rfl
  ·cases h
 ·cases h
def e1C (I:Mem) (n:Nat) (ws:List Value):Mem:=fun b o=>if b=n then ws[o]? else I b o
structure Pushed (w:World) (c:Array Value) (e:TypeId) (w':World):Prop where
 heap:w'.heap=w.heap.push (.cells c e (0,0))
 os:w'.os=w.os
 tape:w'.tape=w.tape
 output:w'.output=w.output
theorem Pushed.old {w w':World} {c:Array Value} {e:TypeId} (h:Pushed w c e w') {b:Nat} (hb:b<w.heap.size):w'.heap[b]? =w.heap[b]?:=by
 rw[h.heap,Array.getElem?_push,if_neg (by omega)]
theorem Pushed.new {w w':World} {c:Array Value} {e:TypeId} (h:Pushed w c e w'):w'.heap[w.heap.size]? =some (.cells c e (0,0)):=by
 rw[h.heap];simp
theorem f1y {w w':World} {a:Addr} (h:w'.heap[a.block]? =w.heap[a.block]?):w'.cell? a=w.cell? a:=by simp [World.cell?,h]
theorem Pushed.imm {w w':World} {c:Array Value} {e:TypeId} (h:Pushed w c e w') (hI:ImmOk I w) {ws:List Value} (hws:∀(i:Nat) v,ws[i]? =some v→c[i]? =some v) (ho:OneCells ws) (A:Nat→Prop):
  Eff I w A (e1C I w.heap.size ws) w'∧ImmOk (e1C I w.heap.size ws) w'∧ReadAt (e1C I w.heap.size ws) w.heap.size 0 ws:=by
 refine⟨⟨?_,?_,fun b hb _=>h.old hb,by rw[h.heap];simp,h.os,h.tape,h.output⟩,?_,?_⟩
 ·intro b o v hv
  have:=hI.lt hv
  simp only[e1C];rw[if_neg (by omega)];exact hv
 ·intro b o v hv
  simp only[e1C] at hv
  split at hv
  ·rename_i hb;exact .inr (.inl (by omega))
  ·exact .inl hv
 ·intro b o v hv
  simp only[e1C] at hv
  split at hv
  ·rename_i hb;subst hb
   exact⟨by simp [World.cell?,h.new,hws o v hv],ho v (List.mem_of_getElem? hv)⟩
  ·have hlt:=hI.lt hv
   exact⟨by rw[f1y (h.old (b:=b) hlt)];exact(hI b o v hv).1,(hI b o v hv).2⟩
 ·intro i v hv
  simp only[e1C,if_true,Nat.zero_add];exact hv
theorem Pushed.none {w w':World} {c:Array Value} {e:TypeId} (h:Pushed w c e w') (hI:ImmOk I w) (A:Nat→Prop):Eff I w A I w'∧ImmOk I w'∧∀o,I w.heap.size o=Option.none:=by
 refine⟨⟨.refl I,fun b o v hv=>.inl hv,fun b hb _=>h.old hb,by rw[h.heap];simp,h.os,h.tape,h.output⟩,?_,?_⟩
 ·intro b o v hv
  exact⟨by rw[f1y (h.old (b:=b) (hI.lt hv))];exact(hI b o v hv).1,(hI b o v hv).2⟩
 ·intro o
  cases hv:I w.heap.size o with
  |none=>rfl
  |some v=>have:=hI.lt hv;omega
theorem g1r (w:World) (c:Array Value) (e:TypeId):Pushed w c e {w with heap:=w.heap.push (.cells c e)}:=⟨rfl,rfl,rfl,rfl⟩
theorem p1o (w:World) (c:Array Value) (e:TypeId):Pushed w c e (w.drew.alloc (.cells c e)):=⟨rfl,rfl,rfl,rfl⟩
theorem h1K {o:Oper} {vs:List AV} {cs:List AV} {ρ:Operand→Value} {cvs:List Value} (h:c1D P o vs=some cs) (hv:TRepL I μ lh lv cvs vs) (hc:cvs=o.op.operands.toList.map ρ):
  ∃e c w',(execOp ρ o).run P w=.ok (.value (.pointer (some ⟨w.heap.size,0,none⟩))) w'∧Pushed w c e w'∧RepL I μ c.toList cs∧OneCells c.toList:=by
 unfold c1D at h
 split at h
 ·rename_i e hop
  obtain⟨z,hz,h1,h2⟩:=j1f (I:=I) (μ:=μ) h
  refine⟨e,z.cells,_,?_,g1r w _ _,h1,h2⟩
  simp [execOp,hop,Instr.alloc,l1V hz,newVar,newRow]
 ·rename_i e x v hop
  simp only[Option.map_eq_some_iff] at h
  obtain⟨cs',hcs,rfl⟩:=h
  simp [hop,Op.operands] at hc
  subst hc
  have hr:Rep I μ (ρ x) v:=(hv.uncons.1).rep (by cases v<;>simp [AV.cells] at hcs<;>rfl)
  obtain⟨h1,h2⟩:=l1J hr hcs
  refine⟨e,(ρ x).cells,_,?_,g1r w _ _,h1.dis,h2⟩
  simp [execOp,hop,Instr.box,newVar,newRow]
 ·cases h
theorem e1r {α:Type} (l:List α) (n i:Nat) (h:i<n*l.length):(List.replicate n l).flatten[i]? =l[i%l.length]?:=by
 induction n generalizing i with
 |zero=>simp at h
 |succ n ih=>
  rw[List.replicate_succ,List.flatten_cons]
  by_cases hi:i<l.length
  ·rw[List.getElem?_append_left hi,Nat.mod_eq_of_lt hi]
  ·have hs:(n+1)*l.length=n*l.length+l.length:=Nat.succ_mul n l.length
   rw[List.getElem?_append_right (by omega),ih _ (by omega)]
   congr 1
   exact(Nat.mod_eq_sub_mod (by omega)).symm
theorem u1w (z:Array Value) (n:Nat):((Array.range (n*z.size)).map (fun k=>z[k%z.size]!)).toList=(List.replicate n z.toList).flatten:=by
 apply List.ext_getElem?
 intro i
 by_cases hi:i<n*z.size
 ·have h0:0<z.size:=by rcases Nat.eq_zero_or_pos z.size with h|h;simp [h] at hi;exact h
  rw[e1r _ _ _ (by simpa using hi)]
  have hm:i%z.size<z.size:=Nat.mod_lt _ h0
  simp [hi,hm]
 ·rw[List.getElem?_eq_none (by simp;omega),List.getElem?_eq_none]
  simp [List.length_flatten];omega
theorem q1E {sz n:Nat}:∀{l:List AV},l.length=n*sz→(h1C sz n l).flatten=l∧(∀r∈h1C sz n l,r.length=sz)∧(h1C sz n l).length=n:=by
 induction n with
 |zero=>intro l h;simp at h;subst h;simp [h1C]
 |succ n ih=>
  intro l h
  rw[Nat.succ_mul] at h
  obtain⟨h1,h2,h3⟩:=ih (l:=l.drop sz) (by simp;omega)
  refine⟨by simp [h1C,h1],?_,by simp [h1C,h3]⟩
  intro r hr
  simp only[h1C,List.mem_cons] at hr
  rcases hr with rfl|hr
  ·simp;omega
  ·exact h2 r hr
theorem l1W {vs:List Value} {asq:List AV} (h:RepL I μ vs asq) (n:Nat):RepL I μ (List.replicate n vs).flatten (List.replicate n asq).flatten:=by
 induction n with
 |zero=>exact .nil
 |succ n ih=>simpa [List.replicate_succ] using h.append ih
theorem l1X {vs:List Value} (h:OneCells vs) (n:Nat):OneCells (List.replicate n vs).flatten:=by
 intro v hv
 simp only[List.mem_flatten,List.mem_replicate] at hv
 obtain⟨l,⟨_,rfl⟩,hv⟩:=hv
 exact h v hv
theorem u1x {I:Mem} {μ:List Nat} {t:TypeId} {v:Value} {a:AV} (h:Rep I μ v a):Rep I μ v (a1D P t a):=by
 cases a with
 |slice sz rows own=>
  have hno:∀{n:Nat},rows=[]∨n=sz→Rep I μ v (.slice n rows .no):=by
   intro n hn
   cases h with
   |slice0 sz own _=>exact .slice0 _ _ .nil
   |slice b o cap sz ws rows own hr h2 hl hc hf _=>
    refine .slice b o cap n ws rows .no hr h2 (fun r hr=>?_) hc (fun h=>by cases h) .nil
    rcases hn with rfl|rfl
    ·cases hr
    ·exact hl r hr
   |slice1 a cap sz own ho _=>exact .slice1 _ _ _ _ (.inl rfl) .nil
  unfold a1D
  simp only
  split
  ·split
   ·split
    ·exact hno (.inr rfl)
    ·split
     ·exact hno (.inl rfl)
     ·exact h
   ·exact h
  ·exact h
 |_=>exact h
theorem k1u {I:Mem} {μ:List Nat}:∀{ts:List TypeId} {vs:List Value} {asq:List AV},RepL I μ vs asq→RepL I μ vs (h1D P ts asq)
 |[],_,_,h=>by unfold h1D;exact h
 |t::ts,_,[],h=>h
 |t::ts,[],a::asq,h=>by cases h
 |t::ts,v::vs,a::asq,h=>by
  obtain⟨h1,h2⟩:=h.uncons
  exact .cons (u1x h1) (k1u h2)
theorem m1M:∀{ts:List TypeId} {vs:List AV},(h1D P ts vs).length=vs.length
 |[],_=>by unfold h1D;rfl
 |t::ts,[]=>rfl
 |t::ts,v::vs=>by simp only[h1D,List.length_cons,m1M (ts:=ts) (vs:=vs)]
theorem v1X {e:TypeId} {r:List AV}:(e1Y P e r).length=r.length:=by
 unfold e1Y
 split
 ·split
  ·exact m1M
  ·rfl
 ·exact m1M
theorem v1Y {I:Mem} {μ:List Nat} {e:TypeId} {vs:List Value} {r:List AV} (h:RepL I μ vs r):RepL I μ vs (e1Y P e r):=by
 unfold e1Y
 split
 ·split
  ·exact k1u h
  ·exact h
 ·exact k1u h
theorem n1y {I:Mem} {μ:List Nat} {e:TypeId}:∀{rows:List (List AV)} {vs:List Value},RepL I μ vs rows.flatten→RepL I μ vs (rows.map (e1Y P e)).flatten
 |[],_,h=>h
 |r::rows,vs,h=>by
  simp only[List.flatten_cons,List.map_cons] at h⊢
  have h1:=h.take r.length
  have h2:=h.drop r.length
  rw[List.take_left] at h1
  rw[List.drop_left] at h2
  have:=(v1Y (P:=P) (e:=e) h1).append (n1y (e:=e) h2)
  rwa [List.take_append_drop] at this
theorem m1N (hI:ImmOk I w) {t:TypeId} {n:Nat} (ps:Array (Nat×Operand)) {ρ:Operand→Value} {avs:List AV} {r:AV} (hv:RepL I μ (ps.toList.map fun p=>ρ p.2) avs)
  (h:f1S P t n (f1t ps.toList avs)=some r) (A:Nat→Prop):
  ∃v' w' J,(Instr.buildSlice t n (ps.map fun (i,x)=>(i,ρ x))).run P w=.ok v' w'∧Eff I w A J w'∧ImmOk J w'∧Rep J μ v' r∧NoOwn r:=by
 unfold f1S at h
 split at h
 ·rename_i e hd
  split at h
  ·rename_i i hi
   split at h
   ·rename_i z hz
    split at h
    ·rename_i hb
     obtain⟨h1,h2,h3,h4⟩:=hb
     simp only[Option.map_eq_some_iff] at h
     obtain⟨cs,hcs,rfl⟩:=h
     have hsz:size? P e=some i.size:=by simp [size?,hi]
     have hzr:RepL I μ z.cells.toList (z.cells.toList.map ofCell):=.ofCells _
     have hzo:OneCells z.cells.toList:=fun v hv=>List.all_eq_true.1 h4 v hv
     have hcell0:=u1w z.cells n
     have hpl:∀j p,place? P t j=some p→(fun j=>some (j*i.size,i.size)) j=some p:=by
      intro j p hp
      simpa [place?,hd,hsz] using hp
     obtain⟨cells',f1,f2,f3,f4⟩:=l1c (P:=P) (t:=t) (I:=I) (μ:=μ) (cells:=(Array.range (n*z.cells.size)).map (fun k=>z.cells[k%z.cells.size]!)) hpl ρ ps.toList hv
      (by rw[hcell0];exact l1W hzr n) (by rw[hcell0];exact l1X hzo n) hcs
     have hlen:cells'.size=n*i.size:=by rw[f4,h1];simp
     have hne:n*i.size≠0∨n=0:=by
      rcases Nat.eq_zero_or_pos n with h|h
      ·exact .inr h
      ·exact .inl (Nat.ne_of_gt (Nat.mul_pos h h2))
     have hrun:(Instr.buildSlice t n (ps.map fun (i,x)=>(i,ρ x))).run P w=.ok (.slice (some ⟨w.heap.size,0,none⟩) n n) {w with heap:=w.heap.push (.cells cells' e)}:=by
      have h3':¬(2^24<n*i.size):=by omega
      have f1':Instr.fill (fun j=>some (j*i.size,i.size)) ((Array.range (n*i.size)).map (fun k=>z.cells[k%z.cells.size]!)) (ps.map fun (i,x)=>(i,ρ x)).toList=some cells':=by
       rw[←f1,h1];simp
      simp only[Instr.buildSlice,Sem.run_bind,run_underlying hd,Result.andThen_ok,e1B hsz]
      rw[Sem.run_ite,if_neg h3']
      rcases hne with hne|rfl
      ·simp only[hne,if_false]
       rw[Sem.run_bind,l1V (P:=P) (t:=e) (z:=z) (by simp [hi,hz]),Result.andThen_ok,Sem.run_bind,Sem.run_pure,Result.andThen_ok,f1']
       rfl
      ·have f0:Instr.fill (fun j=>some (j*i.size,i.size)) ((Array.range (0*i.size)).map (fun k=>(#[]:Array Value)[k%(#[]:Array Value).size]!)) (ps.map fun (i,x)=>(i,ρ x)).toList=some cells':=by
        rw[←f1'];congr 1;apply Array.ext';simp
       simp only[Nat.zero_mul,if_true]
       rw[Sem.run_bind,Sem.run_pure,Result.andThen_ok]
       simp only[Nat.zero_mul] at f0
       rw[f0]
       rfl
     obtain⟨g1,g2,g3⟩:=(g1r w cells' e).imm hI (ws:=cells'.toList) (fun j v hv=>by simpa using hv) f3 A
     obtain⟨k1,k2,k3⟩:=q1E (sz:=i.size) (n:=n) (l:=cs) (by rw[←f2.length];simpa using hlen)
     refine⟨_,_,_,hrun,g1,g2,?_,fun s r h=>by cases h⟩
     have k4:((h1C i.size n cs).map (e1Y P e)).length=n:=by rw[List.length_map,k3]
     have:=RepL.slice (I:=e1C I w.heap.size cells'.toList) (μ:=μ) (vs:=[]) (asq:=[]) w.heap.size 0 n i.size cells'.toList ((h1C i.size n cs).map (e1Y P e)) .full g3 (n1y (by rw[k1];exact f2.mono g1.le (.refl μ))) (fun r hr=>by
      obtain⟨r',hr',rfl⟩:=List.mem_map.1 hr
      rw[v1X];exact k2 r' hr') (by rw[k4];exact Nat.le_refl _) (fun _=>k4.symm) .nil
     rwa [k4] at this
    ·cases h
   ·cases h
  ·cases h
 ·cases h
theorem b2B {v:Value} {a:AV} {sz:Nat} {new:List (List AV)} (hv:Rep I μ v a) (h:f1s a=some (sz,new)) (w:World):(Builtin.lenOf v).run P w=.ok new.length w:=by
 unfold f1s at h
 split at h
 ·simp only[Option.some.injEq,Prod.mk.injEq] at h
  obtain⟨rfl,rfl⟩:=h
  cases hv<;>simp [Builtin.lenOf]
 ·simp only[Option.some.injEq,Prod.mk.injEq] at h
  obtain⟨rfl,rfl⟩:=h
  cases hv;simp [Builtin.lenOf]
 ·cases h
theorem b2C (l:List UInt8):RepL I μ (l.map fun b=>Value.int .u8 b.toNat) ((l.map fun b=>[AV.val (.int .u8 b.toNat)]).flatten):=by
 induction l with
 |nil=>exact .nil
 |cons b l ih=>exact .val _ ih
theorem b2D {v:Value} {a:AV} {sz:Nat} {new:List (List AV)} (hI:ImmOk I w) (hv:Rep I μ v a) (h:f1s a=some (sz,new)):
  ∃ws,RepL I μ ws new.flatten∧OneCells ws∧ws.length=new.length*sz∧(∀r∈new,r.length=sz)∧
   ∀w':World,(∀b,b<w.heap.size→w'.heap[b]? =w.heap[b]?)→(Builtin.firstCells sz new.length v).run P w'=.ok ws.toArray w':=by
 unfold f1s at h
 split at h
 ·simp only[Option.some.injEq,Prod.mk.injEq] at h
  obtain⟨rfl,rfl⟩:=h
  cases hv with
  |slice0=>exact⟨[],.nil,fun v hv=>by simp at hv,by simp,by simp,fun w' _=>by simp [Builtin.firstCells]⟩
  |slice1 a cap sz own ho _=>exact⟨[],.nil,fun v hv=>by simp at hv,by simp,by simp,fun w' _=>run_firstCells_some (P:=P) w' _ 0 a _ _ [] (by simp) (fun j v h=>by simp at h)⟩
  |slice b o cap _ ws _ own hr h2 hl hc hf _=>
   have hlen:=h2.length
   rw[i1f hl] at hlen
   refine⟨ws,h2,hr.one hI,hlen,hl,fun w' hk=>?_⟩
   refine run_firstCells_some w' _ _ ⟨b,o,none⟩ _ _ ws hlen fun j v hv=>?_
   rw[g1K]
   have:=hr j v hv
   rw[f1y (hk b (hI.lt this))]
   exact(hI _ _ _ this).1
 ·simp only[Option.some.injEq,Prod.mk.injEq] at h
  obtain⟨rfl,rfl⟩:=h
  rename_i s
  cases hv
  refine⟨_,b2C s.data.toList,?_,by simp,by simp,fun w' _=>?_⟩
  ·intro v hv;simp at hv;obtain⟨b,_,rfl⟩:=hv;rfl
  ·simp [Builtin.firstCells]
   apply Array.ext';simp
 ·cases h
theorem v1Z (rows:List (List AV)):(rows.map (·.map AV.dis)).flatten=rows.flatten.map AV.dis:=by
 induction rows with
 |nil=>rfl
 |cons r rows ih=>simp only[List.map_cons,List.flatten_cons,ih,List.map_append]
def g1L (I:Mem) (b o:Nat) (ws:List Value):Mem:=fun b' o'=>if b'=b∧o≤o'∧o'<o+ws.length then ws[o'-o]? else I b' o'
theorem h1L (w:World) (g:Nat) (c:Array Value) {b:Nat} (h:b≠g):(w.setRow g c).heap[b]? =w.heap[b]?:=by
 simp only[World.setRow,Array.getElem?_modify]
 rw[if_neg (by omega)]
theorem p1p {t u ty e:TypeId} {ts:Array TypeId} (h0:ts[0]? =some t) (h1:ts[1]? =some u) {xd:TypeDesc} (ht:P.underlying t=some (.slice e)) (hu:P.underlying u=some xd) (hxd:∀k,xd≠ .int k)
  {i:TypeInfo} (hi:P.info? e=some i) {z:Value} (hz:i.zero=some z) {base:Option Addr} {sLen sCap n:Nat} {x:Value} {olds news:Array Value}
  (hlen:(Builtin.lenOf x).run P w=.ok n w) (holds:(Builtin.firstCells i.size sLen (.slice base sLen sCap)).run P w.drew=.ok olds w.drew)
  (hnews:(Builtin.firstCells i.size n x).run P w.drew=.ok news w.drew)
  (hg:sCap<sLen+n) (h63:((sLen+n:Nat):Int)≤9223372036854775807) (hfit:Builtin.nextslicecap (sLen+n) sCap*i.bytes≤281474976710656):
  (Builtin.append_ ts ty #[.slice base sLen sCap,x]).run P w=
   .ok (.slice (some ⟨w.heap.size,0,none⟩) (sLen+n) (grownCap w (sLen+n) sCap e))
    (w.drew.alloc (.cells (olds++news++Builtin.zeroCells z.cells (grownCap w (sLen+n) sCap e-(sLen+n))) e)):=by
 have hn:¬(sLen+n≤sCap):=by omega
 have h63':¬(9223372036854775807<((sLen:Int)+(n:Int))):=by omega
 have h48':¬(281474976710656<Builtin.nextslicecap (sLen+n) sCap*i.bytes):=by omega
 have hm:(xd matches .int _)=false:=by cases xd<;>first|rfl|exact absurd rfl (hxd _)
 simp [Builtin.append_,h0,h1,run_underlying ht,run_underlying hu,hm,sizeOf,typeInfo,zeroValue,hi,hz,hlen,hn,h63',h48',Question.forced,holds,hnews,newRow,grownCap]
theorem k1d {t u ty e:TypeId} {ts:Array TypeId} (h0:ts[0]? =some t) (h1:ts[1]? =some u) {xd:TypeDesc} (ht:P.underlying t=some (.slice e)) (hu:P.underlying u=some xd) (hxd:∀k,xd≠ .int k)
  {i:TypeInfo} (hi:P.info? e=some i) {base:Option Addr} {sLen sCap n:Nat} {x:Value} {news:List Value}
  (hlen:(Builtin.lenOf x).run P w=.ok n w) (hnews:(Builtin.firstCells i.size n x).run P w=.ok news.toArray w) (hroom:sLen+n≤sCap) {w':World}
  (hst:∀a,base=some a→(storeCells (a.add (sLen*i.size)) news).run P w=.ok () w') (hno:base=none→w'=w):
  (Builtin.append_ ts ty #[.slice base sLen sCap,x]).run P w=.ok (.slice base (sLen+n) sCap) w':=by
 have hm:(xd matches .int _)=false:=by cases xd<;>first|rfl|exact absurd rfl (hxd _)
 cases base with
 |none=>rw[hno rfl];simp [Builtin.append_,h0,h1,run_underlying ht,run_underlying hu,hm,sizeOf,typeInfo,hi,hlen,hroom,hnews]
 |some a=>simp [Builtin.append_,h0,h1,run_underlying ht,run_underlying hu,hm,sizeOf,typeInfo,hi,hlen,hroom,hnews,hst a rfl]
theorem b2E {v:Value} {sz n:Nat} {rows:List (List AV)} {own:Own} (hI:ImmOk I w) (hv:Rep I μ v (.slice sz rows own)) (hsz:sz=n∨rows=[]) {base:Option Addr} {len cap:Nat} (e:v=.slice base len cap):
  ∃ws,RepL I μ ws rows.flatten∧OneCells ws∧ws.length=rows.length*n∧∀w':World,(∀b,b<w.heap.size→w'.heap[b]? =w.heap[b]?)→(Builtin.firstCells n rows.length (.slice base len cap)).run P w'=.ok ws.toArray w':=by
 rcases hsz with rfl|rfl
 ·subst e
  obtain⟨ws,h1,h2,h3,_,h5⟩:=b2D (P:=P) (a:=.slice sz rows own) hI hv rfl
  exact⟨ws,h1,h2,h3,h5⟩
 ·refine⟨[],.nil,fun v hv=>by simp at hv,by simp,fun w' _=>?_⟩
  cases base with
  |none=>simp [Builtin.firstCells]
  |some a=>simpa using run_firstCells_some (P:=P) w' n 0 a len cap [] (by simp) (fun j v h=>by simp at h)
theorem s1i (hI:ImmOk I w) {ts:Array TypeId} {ty:TypeId} {va vb:Value} {a b r:AV} (ha:Rep I μ va a) (hb:Rep I μ vb b) (hs:SpareOk I w va a) (h:f1R P ts a b=some r):
  ∃v' w' J,(Builtin.append_ ts ty #[va,vb]).run P w=.ok v' w'∧Eff I w (fun g=>tc g va a≠0) J w'∧ImmOk J w'∧Rep J μ v' r∧SpareOk J w' v' r∧∀g,g<w.heap.size→tc g v' r≤tc g va a:=by
 unfold f1R at h
 split at h
 ·rename_i t u h0 h1
  split at h
  ·rename_i e xd ht hu
   split at h
   ·cases h
   ·rename_i hxd
    split at h
    ·rename_i sz rows own sz' new i hnew hi
     obtain⟨base,cap,rfl,hcap,hfull⟩:∃base cap,va=.slice base rows.length cap∧rows.length≤cap∧(own=.full→cap=rows.length):=by
      rcases slice_inv ha with ⟨rfl,rfl⟩|⟨b,o,cap,ws,rfl,_,_,_,h5,h6⟩|⟨rfl,a,cap,rfl,ho⟩
      ·exact⟨_,_,rfl,by simp,by simp⟩
      ·exact⟨_,_,rfl,h5,h6⟩
      ·exact⟨_,_,rfl,by simp,fun hf=>by
        rcases ho with h|⟨_,h⟩
        ·rw[hf] at h;cases h
        ·exact h⟩
     obtain⟨ws,n1,n2,n3,n4,n5⟩:=b2D (P:=P) hI hb hnew
     have hlen:=b2B (P:=P) hb hnew w
     split at h
     ·rename_i hnil
      subst hnil
      simp only[Option.some.injEq] at h;subst h
      simp at n3;subst n3
      have hst:∀a,base=some a→(storeCells (a.add (rows.length*i.size)) []).run P w=.ok () w:=fun a _=>by simp [storeCells]
      have hf0:(Builtin.firstCells i.size ([]:List (List AV)).length vb).run P w=.ok ([]:List Value).toArray w:=by
       unfold f1s at hnew
       split at hnew
       ·simp only[Option.some.injEq,Prod.mk.injEq] at hnew
        obtain⟨rfl,rfl⟩:=hnew
        cases hb with
        |slice0=>simp [Builtin.firstCells]
        |slice1 a cap _ own ho _=>exact run_firstCells_some (P:=P) w i.size 0 a _ _ [] (by simp) (fun j v h=>by simp at h)
        |slice b o cap _ ws _ own hr h2 hl hc hf _=>exact run_firstCells_some (P:=P) w i.size 0 ⟨b,o,none⟩ _ _ [] (by simp) (fun j v h=>by simp at h)
       ·simp only[Option.some.injEq,Prod.mk.injEq] at hnew
        obtain⟨rfl,hs⟩:=hnew
        cases hb;simp [Builtin.firstCells]
       ·cases hnew
      exact⟨_,w,I,k1d h0 h1 ht hu hxd hi hlen hf0 (by simpa using hcap) hst (fun _=>rfl),.refl _ _ _,hI,by simpa using ha,by simpa using hs,fun g _=>by simp⟩
     ·rename_i hne
      split at h
      ·rename_i hc
       obtain⟨c1,rfl,c3,c4,c5,c6⟩:=hc
       simp only[Option.some.injEq] at h;subst h
       obtain⟨z,hz,hzs⟩:=Option.map_eq_some_iff.1 c6
       have hpos:0<new.length:=by cases new with|nil=>exact absurd rfl hne|cons=>simp
       have hdis:RepL I μ ws (new.map (·.map AV.dis)).flatten:=by rw[v1Z];exact n1.dis
       have hrl:(rows++new.map (·.map AV.dis)).length=rows.length+new.length:=by simp
       obtain⟨os,o1,o2,o3,o5⟩:=b2E (P:=P) (n:=i.size) hI ha (c1.imp id And.left) rfl
       have hrows:∀r∈rows++new.map (·.map AV.dis),r.length=i.size:=by
        intro r hr
        rcases List.mem_append.1 hr with hr|hr
        ·rcases c1 with rfl|⟨rfl,_⟩
         ·rcases slice_inv ha with ⟨rfl,_⟩|⟨b,o,cap,ws,_,_,_,h4,_,_⟩|⟨rfl,_⟩
          ·simp at hr
          ·exact h4 r hr
          ·simp at hr
         ·simp at hr
        ·simp at hr
         obtain⟨x,hx,rfl⟩:=hr
         simpa using n4 x hx
       by_cases hroom:rows.length+new.length≤cap
       ·
        have hown:own=.yes:=by
         cases own with
         |no=>exact absurd rfl c3
         |full=>have:=hfull rfl;omega
         |yes=>rfl
        subst hown
        obtain rfl:sz=i.size:=by rcases c1 with h|⟨_,h⟩;exact h;cases h
        rcases slice_inv ha with ⟨rfl,e0⟩|⟨b,o,cap0,ws',e0,hr,h2,hl,hc,hf⟩|⟨_,_,_,_,ho⟩
        rotate_left 2
        ·rcases ho with h|⟨h,_⟩<;>cases h
        ·cases e0;simp only[List.length_nil] at hroom;omega
        ·cases e0
         obtain⟨⟨c,e',hc1,hc2⟩,hI2⟩:=hs b o _ _ _ _ rfl rfl
         have hmul:(rows.length+new.length)*i.size≤cap*i.size:=Nat.mul_le_mul_right _ hroom
         rw[Nat.add_mul] at hmul
         have hws':ws'.length=rows.length*i.size:=by rw[h2.length,i1f hl]
         have hst:=run_storeCells_at P b (o+rows.length*i.size) e' ws 0 c w hc1 (by omega) n2
         simp only[Nat.add_zero] at hst
         refine⟨_,_,g1L I b (o+rows.length*i.size) ws,k1d h0 h1 ht hu hxd hi hlen (n5 w fun _ _=>rfl) hroom (fun a ha=>by cases ha;rw[g1K];exact hst) (fun h=>by cases h),?_,?_,?_,?_,?_⟩
         ·refine⟨?_,?_,?_,?_,rfl,rfl,rfl⟩
          ·intro b' o' v hv
           simp only[g1L]
           split
           ·rename_i hb'
            obtain⟨rfl,hb1,_⟩:=hb'
            rw[hI2 o' hb1] at hv;cases hv
           ·exact hv
          ·intro b' o' v hv
           simp only[g1L] at hv
           split at hv
           ·rename_i hb';exact .inr (.inr (by simp [tc,hb'.1]))
           ·exact .inl hv
          ·intro b' hb' hn
           exact h1L w b _ (fun hbb=>hn (by simp [tc,hbb]))
          ·simp [World.setRow]
         ·intro b' o' v hv
          simp only[g1L] at hv
          have hrow:=setRow_heap w b c (c.toList.take (o+rows.length*i.size)++ws++c.toList.drop (o+rows.length*i.size+ws.length)).toArray e' (0,0) hc1
          split at hv
          ·rename_i hb'
           obtain⟨rfl,hb1,hb2⟩:=hb'
           refine⟨?_,n2 v (List.mem_of_getElem? hv)⟩
           simp only[World.cell?,hrow]
           simp only[Option.isSome_none,Bool.false_eq_true,if_false,List.getElem?_toArray]
           rw[List.append_assoc,List.getElem?_append_right (by simp;omega),List.getElem?_append_left (by simp;omega)]
           rw[←hv];congr 1;simp;omega
          ·rename_i hb'
           obtain⟨hv1,hv2⟩:=hI b' o' v hv
           refine⟨?_,hv2⟩
           by_cases hbb:b'=b
           ·subst hbb
            have ho':o'<o+rows.length*i.size:=by
             rcases Nat.lt_or_ge o' (o+rows.length*i.size) with h|h
             ·exact h
             ·rw[hI2 o' h] at hv;cases hv
            simp only[World.cell?,hrow]
            simp only[Option.isSome_none,Bool.false_eq_true,if_false,List.getElem?_toArray]
            rw[List.append_assoc,List.getElem?_append_left (by simp;omega),List.getElem?_take,if_pos ho']
            simp only[World.cell?,hc1] at hv1
            simpa using hv1
           ·rw[f1y (h1L w b _ (b:=b') hbb)];exact hv1
         ·have hle:LeM I (g1L I b (o+rows.length*i.size) ws):=by
           intro b' o' v hv
           simp only[g1L]
           split
           ·rename_i hb'
            obtain⟨rfl,hb1,_⟩:=hb'
            rw[hI2 o' hb1] at hv;cases hv
           ·exact hv
          have:=RepL.slice (I:=g1L I b (o+rows.length*i.size) ws) (μ:=μ) (vs:=[]) (asq:=[]) b o cap i.size (ws'++ws) (rows++new.map (·.map AV.dis)) .yes ?_ ?_ hrows (by rw[hrl];exact hroom) (fun h=>by cases h) .nil
          ·rwa [hrl] at this
          ·intro j v hv
           by_cases hj:j<ws'.length
           ·rw[List.getElem?_append_left hj] at hv
            exact hle _ _ _ (hr j v hv)
           ·rw[List.getElem?_append_right (by omega)] at hv
            have hj2:=(List.getElem?_eq_some_iff.1 hv).1
            simp only[g1L,true_and]
            rw[if_pos ⟨by omega,by omega⟩,←hv]
            congr 1;omega
          ·rw[List.flatten_append]
           exact(h2.mono hle (.refl μ)).append (hdis.mono hle (.refl μ))
         ·intro b' o' len' cap' sz'' rows'' hv ha
          cases ha
          cases hv
          refine⟨⟨_,e',setRow_heap w b c _ e' (0,0) hc1,?_⟩,?_⟩
          ·simp;omega
          ·intro k hk
           rw[Nat.add_mul] at hk
           simp only[g1L]
           rw[if_neg (by omega)]
           exact hI2 k (by omega)
         ·intro g _;simp [tc]
       ·
        have hg:cap<rows.length+new.length:=by omega
        have hfit:=growslice_fits (old:=cap) (need:=rows.length+new.length) (bytes:=i.bytes) hg (by
         have:=Nat.mul_le_mul c4 c5;omega)
        have hrun:=p1p (P:=P) (w:=w) (ty:=ty) h0 h1 ht hu hxd hi hz hlen (o5 w.drew fun _ _=>rfl) (n5 w.drew fun _ _=>rfl) hg (by omega) hfit
        have hcapge:=grownCap_ge w (rows.length+new.length) cap e
        obtain⟨p1,p2,p3⟩:=(p1o w (os.toArray++ws.toArray++Builtin.zeroCells z.cells (grownCap w (rows.length+new.length) cap e-(rows.length+new.length))) e).imm hI (ws:=os++ws)
         (fun j v hv=>by
          have hj:=(List.getElem?_eq_some_iff.1 hv).1
          rw[Array.getElem?_append_left (by simpa using hj)]
          simpa using hv)
         (fun v hv=>by rcases List.mem_append.1 hv with h|h;exact o2 v h;exact n2 v h) (fun g=>tc g (.slice base rows.length cap) (.slice sz rows own)≠0)
        refine⟨_,_,_,hrun,p1,p2,?_,?_,?_⟩
        ·have:=RepL.slice (I:=e1C I w.heap.size (os++ws)) (μ:=μ) (vs:=[]) (asq:=[]) w.heap.size 0 (grownCap w (rows.length+new.length) cap e) i.size (os++ws) (rows++new.map (·.map AV.dis)) .yes p3
          (by rw[List.flatten_append];exact(o1.mono p1.le (.refl μ)).append (hdis.mono p1.le (.refl μ))) hrows (by rw[hrl];exact hcapge) (fun h=>by cases h) .nil
         rwa [hrl] at this
        ·intro b' o' len' cap' sz'' rows'' hv ha
         cases ha
         cases hv
         refine⟨⟨_,e,(p1o w _ e).new,?_⟩,?_⟩
         ·have e1:(rows.length+new.length)*i.size=rows.length*i.size+new.length*i.size:=Nat.add_mul _ _ _
          have e2:(grownCap w (rows.length+new.length) cap e)*i.size=(grownCap w (rows.length+new.length) cap e-(rows.length+new.length))*i.size+(rows.length+new.length)*i.size:=by
           rw[←Nat.add_mul];congr 1;omega
          simp [size_zeroCells,hzs,o3,n3]
          omega
         ·intro k hk
          simp only[e1C,if_true]
          rw[List.getElem?_eq_none]
          simp;rw[o3,n3];rw[Nat.add_mul] at hk;omega
        ·intro g hg;simp only[tc];rw[if_neg (by omega)];exact Nat.zero_le _
      ·cases h
    ·cases h
  ·cases h
 ·cases h
theorem r1q {n:Int} (h0:0≤n) (h1:n≤2147483648):IntKind.i64.wrap n=n:=by
 simp [IntKind.wrap,IntKind.bits,IntKind.signed]
 omega
theorem n1V (hI:ImmOk I w) {t:TypeId} {vl vc:Value} {l c r:AV} (hl:Rep I μ vl l) (hc:Rep I μ vc c) (h:f1a P t l c=some r) (A:Nat→Prop):
  ∃v' w' J,(Instr.makeSlice t vl vc).run P w=.ok v' w'∧Eff I w A J w'∧ImmOk J w'∧Rep J μ v' r∧SpareOk J w' v' r∧∀g,g<w.heap.size→tc g v' r=0:=by
 unfold f1a at h
 split at h
 ·rename_i e k l k' c hd
  split at h
  ·rename_i i hi
   split at h
   ·rename_i z hz
    split at h
    ·rename_i hb
     obtain⟨h1,h2,h3,h4,h5,h6,h7⟩:=hb
     simp only[Option.some.injEq] at h;subst h
     cases hl;cases hc
     have hzo:OneCells z.cells.toList:=fun v hv=>List.all_eq_true.1 h7 v hv
     have hsz:size? P e=some i.size:=by simp [size?,hi]
     have hw1:=r1q h1 (by omega)
     have hw2:=r1q (by omega) h3
     have hbytes:¬(281474976710656<(i.bytes:Int)*c):=by
      have:(i.bytes:Int)*c≤4096*2147483648:=by
       have a1:(i.bytes:Int)*c≤(i.bytes:Int)*2147483648:=Int.mul_le_mul_of_nonneg_left h3 (by omega)
       have a2:(i.bytes:Int)*2147483648≤4096*2147483648:=Int.mul_le_mul_of_nonneg_right (by omega) (by omega)
       omega
      omega
     have hneg:¬(c<0):=by omega
     have hneg2:¬(l<0):=by omega
     have hlc:¬(c<l):=by omega
     have hC:∃C:Array Value,(Instr.makeSlice t (.int k l) (.int k' c)).run P w=.ok (.slice (some ⟨w.heap.size,0,none⟩) l.toNat c.toNat) {w with heap:=w.heap.push (.cells C e)}∧C.toList=(List.replicate c.toNat z.cells.toList).flatten:=by
      by_cases hn:c.toNat*i.size=0
      ·have hc0:c.toNat=0:=by rcases Nat.mul_eq_zero.1 hn with h|h;exact h;omega
       refine⟨#[],?_,by simp [hc0]⟩
       simp [Instr.makeSlice,run_underlying hd,asInt,asIntOf,typeInfo,hi,hw1,hw2,hneg,hneg2,hlc,hbytes,e1B hsz,hn,newRow]
       congr 2;apply Array.ext';simp
      ·refine⟨(Array.range (c.toNat*z.cells.size)).map (fun k=>z.cells[k%z.cells.size]!),?_,u1w _ _⟩
       have hzr:=l1V (P:=P) (t:=e) (z:=z) (by simp [hi,hz])
       simp [Instr.makeSlice,run_underlying hd,asInt,asIntOf,typeInfo,hi,hw1,hw2,hneg,hneg2,hlc,hbytes,e1B hsz,hn,hzr,newRow,h6]
     obtain⟨C,hrun,hCl⟩:=hC
     have hflat:∀n,((List.replicate n z.cells.toList).flatten).length=n*i.size:=fun n=>by simp [List.length_flatten,h6]
     have hCs:C.size=c.toNat*i.size:=by rw[←Array.length_toList,hCl,hflat]
     have hle:l.toNat≤c.toNat:=by omega
     obtain⟨p1,p2,p3⟩:=(g1r w C e).imm hI (ws:=(List.replicate l.toNat z.cells.toList).flatten)
      (fun j v hv=>by
       have hj:=(List.getElem?_eq_some_iff.1 hv).1
       rw[hflat] at hj
       have hj':j<c.toNat*i.size:=Nat.lt_of_lt_of_le hj (Nat.mul_le_mul_right _ hle)
       rw[←Array.getElem?_toList,hCl]
       rw[e1r _ _ _ (by simpa [h6] using hj)] at hv
       rw[e1r _ _ _ (by simpa [h6] using hj')]
       exact hv)
      (l1X hzo _) A
     have hrep:RepL (e1C I w.heap.size (List.replicate l.toNat z.cells.toList).flatten) μ (List.replicate l.toNat z.cells.toList).flatten (List.replicate l.toNat (z.cells.toList.map ofCell)).flatten:=l1W (.ofCells _) _
     refine⟨_,_,_,hrun,p1,p2,?_,?_,?_⟩
     ·have:=RepL.slice (I:=e1C I w.heap.size (List.replicate l.toNat z.cells.toList).flatten) (μ:=μ) (vs:=[]) (asq:=[]) w.heap.size 0 c.toNat i.size _ (List.replicate l.toNat (z.cells.toList.map ofCell)) (if l=c then .full else .yes) p3 hrep
       (fun r hr=>by simp at hr;rw[hr.2];simp [h6]) (by simpa using hle) (fun h=>by split at h;simp [*];cases h) .nil
      simpa using this
     ·intro b' o' len' cap' sz'' rows'' hv ha
      cases hv
      injection ha with e1 e2 e3
      subst e1
      refine⟨⟨C,e,(g1r w C e).new,by rw[hCs];omega⟩,fun k hk=>?_⟩
      simp only[e1C,if_true]
      rw[List.getElem?_eq_none]
      rw[hflat];omega
     ·intro g hg
      simp only[tc]
      split
      ·rename_i e1 e2
       injection e1 with e1 _ _
       injection e1 with e1
       subst e1
       rw[if_neg (by simp;omega)]
      ·rfl
    ·cases h
   ·cases h
  ·cases h
 ·cases h
end
end Go.Eng
end

section
/-
  THE ENGINE, part 5: the pure operations, all in one; the frame's own variables; what is shared.
-/
set_option linter.unusedVariables false
set_option linter.unusedSimpArgs false
namespace Go.Eng
section
variable {P:Program} {I:Mem} {μ:List Nat} {lh:List (Option LCell)} {lv:List LV} {w:World}
def PureOk (P:Program) (I:Mem) (μ:List Nat) (lh:List (Option LCell)) (lv:List LV) (w:World) (cvs:List Value) (vs:List AV) (s:Sem Next) (r:AV):Prop:=
 ∃v' w' J,s.run P w=.ok (.value v') w'∧Eff I w (fun g=>tcs g cvs vs≠0) J w'∧ImmOk J w'∧TRep J μ lh lv v' r∧SpareOk J w' v' r∧∀g,g<w.heap.size→tc g v' r≤tcs g cvs vs
theorem PureOk.quiet {cvs:List Value} {vs:List AV} {s:Sem Value} {r:AV} (hI:ImmOk I w) (h:∃v',s.run P w=.ok v' w∧Rep I μ v' r∧NoOwn r):
  PureOk P I μ lh lv w cvs vs (do pure (.value (←s))) r:=by
 obtain⟨v',h1,h2,h3⟩:=h
 exact⟨v',w,I,by simp [h1],.refl _ _ _,hI,.of h2,h3.spare w v',fun g _=>by rw[h3.tc];exact Nat.zero_le _⟩
theorem PureOk.quietT {cvs:List Value} {vs:List AV} {s:Sem Value} {r:AV} (hI:ImmOk I w) (h:∃v',s.run P w=.ok v' w∧TRep I μ lh lv v' r∧NoOwn r):
  PureOk P I μ lh lv w cvs vs (do pure (.value (←s))) r:=by
 obtain⟨v',h1,h2,h3⟩:=h
 exact⟨v',w,I,by simp [h1],.refl _ _ _,hI,h2,h3.spare w v',fun g _=>by rw[h3.tc];exact Nat.zero_le _⟩
theorem TRep.repOf {v:Value} {a:AV} (h:TRep I μ lh lv v a) (ha:∀t g o,a≠ .lp t g o):Rep I μ v a:=h.rep (by cases a<;>first|rfl|exact absurd rfl (ha _ _ _))
theorem s1j (c:Call) (b:Builtin) (hc:c.callee=.builtin b):c.operands.toList=c.args.toList:=by
 simp [Call.operands,hc]
theorem w1a {o:Oper} {c:Call} {b:Builtin} (hop:o.op=.call c) (hc:c.callee=.builtin b) (ρ:Operand→Value) (w:World):
  (execOp ρ o).run P w=(builtin b c.argTypes o.type (c.args.map fun| .const _=>true|_=>false) (c.args.map ρ)).run P w:=by
 simp [execOp,hop,resolve,hc,invoke]
 rfl
theorem q1F (hI:ImmOk I w) {o:Oper} {c:Call} {b:Builtin} (hop:o.op=.call c) (hc:c.callee=.builtin b) {ρ:Operand→Value} {vs:List AV} {r:AV}
  (hv:TRepL I μ lh lv (c.args.toList.map ρ) vs) (hs:AllSpare I w (c.args.toList.map ρ) vs) (h:g1e P o b c.argTypes vs=some r):
  PureOk P I μ lh lv w (c.args.toList.map ρ) vs (execOp ρ o) r:=by
 have hrun:=w1a (P:=P) hop hc ρ w
 have hargs:c.args.map ρ=(c.args.toList.map ρ).toArray:=by apply Array.ext';simp
 unfold PureOk
 rw[hrun,hargs]
 generalize c.args.toList.map ρ=cvs at *
 generalize (c.args.map fun| .const _=>true|_=>false:Array Bool)=cs
 have q:∀{s:Sem Value} {r:AV},(∃v',s.run P w=.ok v' w∧Rep I μ v' r∧NoOwn r)→PureOk P I μ lh lv w cvs vs (do pure (.value (←s))) r:=fun h=>.quiet hI h
 unfold g1e at h
 split at h
 ·rename_i x
  obtain⟨v,vs',rfl,h1,h2⟩:=hv.inv
  obtain rfl:=h2.inv0
  split at h
  ·rename_i t ht
   have hlp:Rep I μ v x:=h1.repOf (by rintro t g o rfl;unfold alen at h;split at h<;>simp_all)
   exact q (y1N ht hlp h)
  ·cases h
 ·rename_i x y
  obtain⟨v,vs',rfl,h1,h2⟩:=hv.inv
  obtain⟨u,vs'',rfl,h3,h4⟩:=h2.inv
  obtain rfl:=h4.inv0
  have hx:Rep I μ v x:=h1.repOf (by rintro t g o rfl;revert h;unfold f1R;(repeat' split)<;>simp_all)
  have hy:Rep I μ u y:=h3.repOf (by rintro t g o rfl;revert h;unfold f1R;(repeat' split)<;>simp_all [f1s])
  obtain⟨v',w',J,e1,e2,e3,e4,e5,e6⟩:=s1i (ty:=o.type) hI hx hy (hs 0 v x rfl rfl) h
  refine⟨v',w',J,?_,e2.mono fun g hg=>?_,e3,.of e4,e5,fun g hg=>?_⟩
  ·show ((do pure (Next.value (←Builtin.append_ c.argTypes o.type #[v,u])):Sem Next).run P w)=_
   simp [e1]
  ·simp only[zsum];omega
  ·have:=e6 g hg;simp only[zsum];omega
 ·rename_i l
  split at h
  ·rename_i ws hws
   obtain rfl:=p1n hv hws
   simp only[Option.map_eq_some_iff] at h
   obtain⟨v,hv',rfl⟩:=h
   exact q ⟨v,i1w P hv' w,.ofVal v,e1q v⟩
  ·cases h
 ·rename_i l
  split at h
  ·rename_i ws hws
   obtain rfl:=p1n hv hws
   simp only[Option.map_eq_some_iff] at h
   obtain⟨v,hv',rfl⟩:=h
   exact q ⟨v,i1w P hv' w,.ofVal v,e1q v⟩
  ·cases h
 ·cases h
theorem w1b (hI:ImmOk I w) {o:Oper} {ρ:Operand→Value} {vs:List AV} {r:AV} (hv:TRepL I μ lh lv (o.op.operands.toList.map ρ) vs) (hs:AllSpare I w (o.op.operands.toList.map ρ) vs)
  (h:j1P P o vs=some r):PureOk P I μ lh lv w (o.op.operands.toList.map ρ) vs (execOp ρ o) r:=by
 unfold j1P at h
 split at h
 ·
  rename_i x v hop
  simp only[hop,Op.operands] at hv hs⊢
  simp only[Option.some.injEq] at h;subst h
  exact⟨ρ x,w,I,by simp [execOp,hop],.refl _ _ _,hI,hv.uncons.1,hs 0 _ _ rfl rfl,fun g _=>by simp [zsum]⟩
 ·
  rename_i x v hop
  simp only[hop,Op.operands] at hv hs⊢
  simp only[Option.some.injEq] at h;subst h
  exact⟨ρ x,w,I,by simp [execOp,hop],.refl _ _ _,hI,hv.uncons.1,hs 0 _ _ rfl rfl,fun g _=>by simp [zsum]⟩
 ·
  rename_i x y z c a b hop
  simp only[hop,Op.operands] at hv hs⊢
  have h1:=hv.uncons.1
  have h2:=hv.uncons.2.uncons.1
  have h3:=hv.uncons.2.uncons.2.uncons.1
  split at h
  ·simp only[Option.some.injEq] at h;subst h
   have:ρ x=.bool true:=f1d h1 rfl
   exact⟨ρ y,w,I,by simp [execOp,hop,this,asBool],.refl _ _ _,hI,h2,hs 1 _ _ rfl rfl,fun g _=>by simp [zsum];omega⟩
  ·simp only[Option.some.injEq] at h;subst h
   have:ρ x=.bool false:=f1d h1 rfl
   exact⟨ρ z,w,I,by simp [execOp,hop,this,asBool],.refl _ _ _,hI,h3,hs 2 _ _ rfl rfl,fun g _=>by simp [zsum];omega⟩
  ·cases h
 ·
  rename_i vs' _ _ e hop
  simp only[Option.map_eq_some_iff] at h
  obtain⟨cs,hcs,rfl⟩:=h
  obtain⟨e',c,w',e1,e2,e3,e4⟩:=h1K hcs hv rfl
  obtain⟨p1,p2,p3⟩:=e2.imm hI (ws:=c.toList) (fun j v hv=>by simpa using hv) e4 (fun g=>tcs g (o.op.operands.toList.map ρ) vs'≠0)
  exact⟨_,w',_,e1,p1,p2,.of (.ref _ _ _ _ p3 (e3.mono p1.le (.refl μ)) .nil),fun _ _ _ _ _ _ _ h=>(by cases h),fun g _=>Nat.zero_le _⟩
 ·
  rename_i vs' _ _ e x hop
  simp only[Option.map_eq_some_iff] at h
  obtain⟨cs,hcs,rfl⟩:=h
  obtain⟨e',c,w',e1,e2,e3,e4⟩:=h1K hcs hv rfl
  obtain⟨p1,p2,p3⟩:=e2.imm hI (ws:=c.toList) (fun j v hv=>by simpa using hv) e4 (fun g=>tcs g (o.op.operands.toList.map ρ) vs'≠0)
  exact⟨_,w',_,e1,p1,p2,.of (.ref _ _ _ _ p3 (e3.mono p1.le (.refl μ)) .nil),fun _ _ _ _ _ _ _ h=>(by cases h),fun g _=>Nat.zero_le _⟩
 ·
  rename_i vs' _ _ t ps hop
  split at h
  ·cases h
  ·rename_i hlp
   have hops:o.op.operands.toList.map ρ=ps.toList.map fun p=>ρ p.2:=by simp [hop,Op.operands]
   have h1:=hv.repL (by simpa using hlp)
   rw[hops] at h1
   have:=PureOk.quiet (lh:=lh) (lv:=lv) (cvs:=o.op.operands.toList.map ρ) (vs:=vs') hI (u1v (P:=P) (w:=w) ps h1 h)
   simpa [execOp,hop] using this
 ·
  rename_i vs' _ _ t n ps hop
  split at h
  ·cases h
  ·rename_i hlp
   have hops:o.op.operands.toList.map ρ=ps.toList.map fun p=>ρ p.2:=by simp [hop,Op.operands]
   have h1:=hv.repL (by simpa using hlp)
   rw[hops] at h1
   obtain⟨v',w',J,e1,e2,e3,e4,e5⟩:=m1N (P:=P) hI ps h1 h (fun g=>tcs g (o.op.operands.toList.map ρ) vs'≠0)
   refine⟨v',w',J,?_,e2,e3,.of e4,e5.spare w' v',fun g _=>by rw[e5.tc];exact Nat.zero_le _⟩
   simp only[execOp,hop,Sem.run_bind,e1,Result.andThen_ok,Sem.run_pure]
 ·
  rename_i t x cs hop
  simp only[hop,Op.operands] at hv hs⊢
  have h1:=hv.uncons.1
  have hcore:∃v',(Instr.loadAt t (ρ x)).run P w=.ok v' w∧Rep I μ v' r∧NoOwn r:=by
   generalize ρ x=u at h1
   cases h1 with
   |ref b k ws cs hr h2 _=>
    obtain⟨v',e1,e2,e3⟩:=f1x (P:=P) (hr.cells hI) (hr.one hI) h2 h
    exact⟨v',by simpa [Instr.loadAt,Instr.sureAddr] using e1,e2,e3⟩
  have:=PureOk.quiet (lh:=lh) (lv:=lv) (cvs:=[ρ x]) (vs:=[.ref cs]) hI hcore
  simpa [execOp,hop] using this
 ·
  rename_i x v hop
  simp only[hop,Op.operands] at hv hs⊢
  obtain⟨rfl,h2,h3⟩:=p1m hv.uncons.1 h
  refine⟨ρ x,w,I,?_,.refl _ _ _,hI,hv.uncons.1,hs 0 _ _ rfl rfl,fun g _=>by simp [zsum]⟩
  rcases h2 with ⟨b,k,e⟩|⟨g,f,c,e⟩<;>simp [execOp,hop,e]
 ·
  rename_i op t x y yt a b hop
  simp only[hop,Op.operands] at hv hs⊢
  have:=PureOk.quiet (lh:=lh) (lv:=lv) (cvs:=[ρ x,ρ y]) (vs:=[a,b]) hI (y1M (P:=P) (w:=w) hv.uncons.1 hv.uncons.2.uncons.1 h)
  simpa [execOp,hop] using this
 ·
  rename_i op t x v hop
  simp only[hop,Op.operands] at hv hs⊢
  split at h
  ·rename_i u hu
   obtain rfl:=f1d hv.uncons.1 hu
   simp only[Option.map_eq_some_iff] at h
   obtain⟨v',hv',rfl⟩:=h
   have:=PureOk.quiet (lh:=lh) (lv:=lv) (cvs:=[ρ x]) (vs:=[v]) hI ⟨v',i1w P hv' w,.ofVal (I:=I) (μ:=μ) v',e1q v'⟩
   simpa [execOp,hop] using this
  ·cases h
 ·
  rename_i s d x v hop
  simp only[hop,Op.operands] at hv hs⊢
  have h1:Rep I μ (ρ x) v:=hv.uncons.1.repOf (by rintro t g k rfl;simp [g1d] at h)
  have:=PureOk.quiet (lh:=lh) (lv:=lv) (cvs:=[ρ x]) (vs:=[v]) hI (q1C (P:=P) (w:=w) hI h1 h)
  simpa [execOp,hop] using this
 ·
  rename_i t x v hop
  simp only[hop,Op.operands] at hv hs⊢
  have:=PureOk.quiet (lh:=lh) (lv:=lv) (cvs:=[ρ x]) (vs:=[v]) hI (k1G (P:=P) (w:=w) hv.uncons.1 h)
  simpa [execOp,hop] using this
 ·
  rename_i vs' _ _ fn a b hop
  split at h
  ·cases h
  ·rename_i hlp
   simp only[Option.some.injEq] at h;subst h
   have h1:=hv.repL (by simpa using hlp)
   have e1:(o.op.operands.toList.map ρ).take a.size=(a.map ρ).toList:=by simp [hop,Op.operands,List.take_append_of_le_length]
   have e2:(o.op.operands.toList.map ρ).drop a.size=(b.map ρ).toList:=by simp [hop,Op.operands,List.drop_append_of_le_length]
   have r1:=h1.take a.size
   have r2:=h1.drop a.size
   rw[e1] at r1;rw[e2] at r2
   refine⟨.func fn (a.map ρ) (b.map ρ),w,I,by simp [execOp,hop,Instr.makeFunc],.refl _ _ _,hI,.of (.func _ _ _ _ _ r1 r2 .nil),fun _ _ _ _ _ _ h=>(by cases h),fun g _=>Nat.zero_le _⟩
 ·
  rename_i t x y l c hop
  simp only[hop,Op.operands] at hv hs⊢
  have h1:Rep I μ (ρ x) l:=hv.uncons.1.repOf (by rintro t g k rfl;revert h;unfold f1a;(repeat' split)<;>simp_all)
  have h2:Rep I μ (ρ y) c:=hv.uncons.2.uncons.1.repOf (by rintro t g k rfl;revert h;unfold f1a;(repeat' split)<;>simp_all)
  obtain⟨v',w',J,e1,e2,e3,e4,e5,e6⟩:=n1V (P:=P) hI h1 h2 h (fun g=>tcs g [ρ x,ρ y] [l,c]≠0)
  exact⟨v',w',J,by simp [execOp,hop,e1],e2,e3,.of e4,e5,fun g hg=>by rw[e6 g hg];exact Nat.zero_le _⟩
 ·
  rename_i t x l hh m a asq hop
  have hlp:(a::asq).any AV.isLp=false:=by
   cases hl:(a::asq).any AV.isLp with
   |false=>rfl
   |true=>simp [hl] at h
  have h1:=hv.repL hlp
  have hcore:∃v',(Instr.sliceAt t (ρ x) (l.map ρ) (hh.map ρ) (m.map ρ)).run P w=.ok v' w∧Rep I μ v' r∧NoOwn r:=by
   have hlp0:=hlp
   cases l<;>cases hh<;>cases m
   ·
    simp only[Option.isSome_some,Option.isSome_none,if_true,if_false,Bool.false_eq_true,List.head?_cons,List.tail_cons,true_and,hlp] at h
    simp only[Option.map_some,Option.map_none]
    simp [hop,Op.operands] at h1
    exact d1I h1.uncons.1 (.inl ⟨rfl,rfl⟩) (.inl ⟨rfl,rfl⟩) (.inl ⟨rfl,rfl⟩) h
   ·
    rcases asq with _|⟨b0,asq⟩
    ·simp at h
    simp only[Option.isSome_some,Option.isSome_none,if_true,if_false,Bool.false_eq_true,List.head?_cons,List.tail_cons,true_and,hlp] at h
    simp only[Option.map_some,Option.map_none]
    simp [hop,Op.operands] at h1
    exact d1I h1.uncons.1 (.inl ⟨rfl,rfl⟩) (.inl ⟨rfl,rfl⟩) (.inr ⟨_,_,rfl,rfl,h1.uncons.2.uncons.1⟩) h
   ·
    rcases asq with _|⟨b0,asq⟩
    ·simp at h
    simp only[Option.isSome_some,Option.isSome_none,if_true,if_false,Bool.false_eq_true,List.head?_cons,List.tail_cons,true_and,hlp] at h
    simp only[Option.map_some,Option.map_none]
    simp [hop,Op.operands] at h1
    exact d1I h1.uncons.1 (.inl ⟨rfl,rfl⟩) (.inr ⟨_,_,rfl,rfl,h1.uncons.2.uncons.1⟩) (.inl ⟨rfl,rfl⟩) h
   ·
    rcases asq with _|⟨b0,asq⟩
    ·simp at h
    rcases asq with _|⟨b1,asq⟩
    ·simp at h
    simp only[Option.isSome_some,Option.isSome_none,if_true,if_false,Bool.false_eq_true,List.head?_cons,List.tail_cons,true_and,hlp] at h
    simp only[Option.map_some,Option.map_none]
    simp [hop,Op.operands] at h1
    exact d1I h1.uncons.1 (.inl ⟨rfl,rfl⟩) (.inr ⟨_,_,rfl,rfl,h1.uncons.2.uncons.1⟩) (.inr ⟨_,_,rfl,rfl,h1.uncons.2.uncons.2.uncons.1⟩) h
   ·
    rcases asq with _|⟨b0,asq⟩
    ·simp at h
    simp only[Option.isSome_some,Option.isSome_none,if_true,if_false,Bool.false_eq_true,List.head?_cons,List.tail_cons,true_and,hlp] at h
    simp only[Option.map_some,Option.map_none]
    simp [hop,Op.operands] at h1
    exact d1I h1.uncons.1 (.inr ⟨_,_,rfl,rfl,h1.uncons.2.uncons.1⟩) (.inl ⟨rfl,rfl⟩) (.inl ⟨rfl,rfl⟩) h
   ·
    rcases asq with _|⟨b0,asq⟩
    ·simp at h
    rcases asq with _|⟨b1,asq⟩
    ·simp at h
    simp only[Option.isSome_some,Option.isSome_none,if_true,if_false,Bool.false_eq_true,List.head?_cons,List.tail_cons,true_and,hlp] at h
    simp only[Option.map_some,Option.map_none]
    simp [hop,Op.operands] at h1
    exact d1I h1.uncons.1 (.inr ⟨_,_,rfl,rfl,h1.uncons.2.uncons.1⟩) (.inl ⟨rfl,rfl⟩) (.inr ⟨_,_,rfl,rfl,h1.uncons.2.uncons.2.uncons.1⟩) h
   ·
    rcases asq with _|⟨b0,asq⟩
    ·simp at h
    rcases asq with _|⟨b1,asq⟩
    ·simp at h
    simp only[Option.isSome_some,Option.isSome_none,if_true,if_false,Bool.false_eq_true,List.head?_cons,List.tail_cons,true_and,hlp] at h
    simp only[Option.map_some,Option.map_none]
    simp [hop,Op.operands] at h1
    exact d1I h1.uncons.1 (.inr ⟨_,_,rfl,rfl,h1.uncons.2.uncons.1⟩) (.inr ⟨_,_,rfl,rfl,h1.uncons.2.uncons.2.uncons.1⟩) (.inl ⟨rfl,rfl⟩) h
   ·
    rcases asq with _|⟨b0,asq⟩
    ·simp at h
    rcases asq with _|⟨b1,asq⟩
    ·simp at h
    rcases asq with _|⟨b2,asq⟩
    ·simp at h
    simp only[Option.isSome_some,Option.isSome_none,if_true,if_false,Bool.false_eq_true,List.head?_cons,List.tail_cons,true_and,hlp] at h
    simp only[Option.map_some,Option.map_none]
    simp [hop,Op.operands] at h1
    exact d1I h1.uncons.1 (.inr ⟨_,_,rfl,rfl,h1.uncons.2.uncons.1⟩) (.inr ⟨_,_,rfl,rfl,h1.uncons.2.uncons.2.uncons.1⟩) (.inr ⟨_,_,rfl,rfl,h1.uncons.2.uncons.2.uncons.2.uncons.1⟩) h
  have:=PureOk.quiet (lh:=lh) (lv:=lv) (cvs:=o.op.operands.toList.map ρ) (vs:=a::asq) hI hcore
  simpa [execOp,hop] using this
 ·
  rename_i t x i v hop
  simp only[hop,Op.operands] at hv hs⊢
  have:=PureOk.quietT (cvs:=[ρ x]) (vs:=[v]) hI (n1T (P:=P) (w:=w) hv.uncons.1 h)
  simpa [execOp,hop] using this
 ·
  rename_i t x i v hop
  simp only[hop,Op.operands] at hv hs⊢
  have h1:Rep I μ (ρ x) v:=hv.uncons.1.repOf (by rintro t g k rfl;revert h;unfold o1A;(repeat' split)<;>simp_all)
  have:=PureOk.quiet (lh:=lh) (lv:=lv) (cvs:=[ρ x]) (vs:=[v]) hI (u1n (P:=P) (w:=w) h1 h)
  simpa [execOp,hop] using this
 ·
  rename_i t x y v i hop
  simp only[hop,Op.operands] at hv hs⊢
  have:=PureOk.quietT (cvs:=[ρ x,ρ y]) (vs:=[v,i]) hI (n1U (P:=P) (w:=w) hv.uncons.1 hv.uncons.2.uncons.1 h)
  simpa [execOp,hop] using this
 ·
  rename_i t x y v i hop
  simp only[hop,Op.operands] at hv hs⊢
  have h1:Rep I μ (ρ x) v:=hv.uncons.1.repOf (by rintro t g k rfl;revert h;unfold l1x;(repeat' split)<;>simp_all)
  have h2:Rep I μ (ρ y) i:=hv.uncons.2.uncons.1.repOf (by rintro t g k rfl;revert h;unfold l1x;(repeat' split)<;>simp_all)
  have:=PureOk.quiet (lh:=lh) (lv:=lv) (cvs:=[ρ x,ρ y]) (vs:=[v,i]) hI (u1o (P:=P) (w:=w) h1 h2 h)
  simpa [execOp,hop] using this
 ·
  rename_i x xt t ok v hop
  simp only[hop,Op.operands] at hv hs⊢
  have h1:Rep I μ (ρ x) v:=hv.uncons.1.repOf (by rintro t g k rfl;revert h;unfold e1X;(repeat' split)<;>simp_all)
  have:=PureOk.quiet (lh:=lh) (lv:=lv) (cvs:=[ρ x]) (vs:=[v]) hI (m1K (P:=P) (w:=w) (x:=xt) h1 h)
  simpa [execOp,hop] using this
 ·
  rename_i x i v hop
  simp only[hop,Op.operands] at hv hs⊢
  have h1:Rep I μ (ρ x) v:=hv.uncons.1.repOf (by rintro t g k rfl;simp [g1f] at h)
  have:=PureOk.quiet (lh:=lh) (lv:=lv) (cvs:=[ρ x]) (vs:=[v]) hI (q1D (P:=P) (w:=w) h1 h)
  simpa [execOp,hop] using this
 ·
  rename_i vs' _ _ c hop
  split at h
  ·rename_i b hc
   have hops:o.op.operands.toList=c.args.toList:=by simp [hop,Op.operands,s1j c b hc]
   rw[hops] at hv hs⊢
   exact q1F hI hop hc hv hs h
  ·cases h
 ·cases h
end
end Go.Eng
end

section
/-
  THE ENGINE, part 6: a frame at work stands to the model's frame (FInv); a step of one operation keeps it.
-/
set_option linter.unusedVariables false
set_option linter.unusedSimpArgs false
namespace Go.Eng
def BlockOk (I:Mem) (μ:List Nat) (w:World) (b:Nat) (ws:List Value) (cs:List AV):Prop:=
 (∃e,w.heap[b]? =some (.cells ws.toArray e (0,0)))∧RepL I μ ws cs∧OneCells ws∧AllSpare I w ws cs∧∀o,I b o=none
def p1q (I:Mem) (μ:List Nat) (w:World):LV→Option LCell→Prop
 |some (b,ws),some (_,cs)=>BlockOk I μ w b ws cs
 |none,none=>True
 |_,_=>False
structure HInv (I:Mem) (μ:List Nat) (HV:List (List Value)) (w:World) (H:Heap):Prop where
 imm:ImmOk I w
 l1:μ.length=H.length
 l2:HV.length=H.length
 ok:∀(id:Nat) b ws cs,μ[id]? =some b→HV[id]? =some ws→H[id]? =some cs→BlockOk I μ w b ws cs
structure FInv (I:Mem) (μ:List Nat) (HV:List (List Value)) (lv:List LV) (w:World) (vs:List Value) (tm:List AV) (lh:List (Option LCell)) (H:Heap):Prop where
 h:HInv I μ HV w H
 tms:TRepL I μ lh lv vs tm
 sp:AllSpare I w vs tm
 ll:lv.length=lh.length
 lo:∀(t:Nat) d c,lv[t]? =some d→lh[t]? =some c→p1q I μ w d c
 one:∀b,μ.count b+tcss b HV H+zsum (lc b) lv lh+tcs b vs tm≤1
section
variable {P:Program} {I J:Mem} {μ ν:List Nat} {HV:List (List Value)} {lh:List (Option LCell)} {lv:List LV} {w w':World} {vs:List Value} {tm:List AV} {H:Heap} {A:Nat→Prop}
theorem w1c {b:Nat} {vs:List Value} {asq:List AV} (h:0<tcs b vs asq):∃(i:Nat) (v:Value) (a:AV),vs[i]? =some v∧asq[i]? =some a∧0<tc b v a:=r1T (tc b) h
theorem i2E {b:Nat} {v:Value} {a:AV} (h:0<tc b v a):∃o len cap s sz rows,v=.slice (some ⟨b,o,s⟩) len cap∧a=.slice sz rows .yes:=by
 unfold tc at h
 split at h
 ·rename_i x l c s r
  split at h
  ·rename_i e;obtain⟨b',o,s'⟩:=x;simp only at e;subst e;exact⟨o,l,c,s',s,r,rfl,rfl⟩
  ·omega
 ·omega
theorem AllSpare.lt {vs:List Value} {asq:List AV} (h:AllSpare I w vs asq) (hr:TRepL I μ lh lv vs asq) {b:Nat} (hb:0<tcs b vs asq):b<w.heap.size:=by
 obtain⟨i,v,a,hv,ha,hp⟩:=w1c hb
 obtain⟨o,len,cap,s,sz,rows,rfl,rfl⟩:=i2E hp
 have h1:=hr.2 i _ _ hv ha
 rcases slice_inv h1 with ⟨_,e⟩|⟨b',o',cap',ws,e,_⟩|⟨_,_,_,_,ho⟩
 rotate_left 2
 ·rcases ho with h|⟨h,_⟩<;>cases h
 ·cases e
 ·cases e
  obtain⟨⟨c,e,hc,_⟩,_⟩:=h i _ _ hv ha _ _ _ _ _ _ rfl rfl
  exact(Array.getElem?_eq_some_iff.1 hc).1
theorem AllSpare.eff {vs:List Value} {asq:List AV} (h:AllSpare I w vs asq) (he:Eff I w A J w') (hA:∀b,A b→tcs b vs asq=0):AllSpare J w' vs asq:=fun i v a hv ha=>
 he.spare (h i v a hv ha) fun b hb=>by
  have:=hA b hb
  have h2:=g1H (tc b) hv ha
  simp only[tcs] at this
  omega
theorem BlockOk.eff {b:Nat} {ws:List Value} {cs:List AV} (h:BlockOk I μ w b ws cs) (he:Eff I w A J w') (hμ:LeN μ ν) (hb:¬A b) (hA:∀g,A g→tcs g ws cs=0):BlockOk J ν w' b ws cs:=by
 obtain⟨⟨e,h1⟩,h2,h3,h4,h5⟩:=h
 have hlt:b<w.heap.size:=(Array.getElem?_eq_some_iff.1 h1).1
 exact⟨⟨e,by rw[he.keep b hlt hb];exact h1⟩,h2.mono he.le hμ,h3,h4.eff he hA,he.none hlt hb h5⟩
theorem BlockOk.lt {b:Nat} {ws:List Value} {cs:List AV} (h:BlockOk I μ w b ws cs):b<w.heap.size:=by
 obtain⟨⟨e,h1⟩,_⟩:=h
 exact(Array.getElem?_eq_some_iff.1 h1).1
theorem BlockOk.trepl {b:Nat} {ws:List Value} {cs:List AV} (h:BlockOk I μ w b ws cs):TRepL I μ lh lv ws cs:=⟨h.2.1.length,fun i v a hv ha=>.of (h.2.1.get hv ha)⟩
theorem BlockOk.ltc {b g:Nat} {ws:List Value} {cs:List AV} (h:BlockOk I μ w b ws cs) (hg:0<tcs g ws cs):g<w.heap.size:=
 AllSpare.lt (lh:=[]) (lv:=[]) h.2.2.2.1 h.trepl hg
theorem HInv.eff (h:HInv I μ HV w H) (he:Eff I w A J w') (hJ:ImmOk J w') (hA:∀b,A b→μ.count b+tcss b HV H=0):HInv J μ HV w' H:=by
 refine⟨hJ,h.l1,h.l2,fun id b ws cs hb hw hc=>(h.ok id b ws cs hb hw hc).eff he (.refl μ) (fun hAb=>?_) (fun g hg=>?_)⟩
 ·have:=hA b hAb
  have h2:0<μ.count b:=List.count_pos_iff.2 (List.mem_of_getElem? hb)
  omega
 ·have:=hA g hg
  have h2:=g1H (tcs g) hw hc
  simp only[tcss] at this
  omega
theorem HInv.lt (h:HInv I μ HV w H) {b:Nat} (hb:0<μ.count b+tcss b HV H):b<w.heap.size:=by
 rcases Nat.eq_zero_or_pos (μ.count b) with h0|h0
 ·have:0<zsum (tcs b) HV H:=by simp only[tcss] at hb;omega
  obtain⟨i,ws,cs,hw,hc,hp⟩:=r1T _ this
  have hi:i<μ.length:=by rw[h.l1];exact(List.getElem?_eq_some_iff.1 hc).1
  exact(h.ok i _ ws cs (List.getElem?_eq_getElem hi) hw hc).ltc hp
 ·obtain⟨i,hi⟩:=List.getElem?_of_mem (List.count_pos_iff.1 h0)
  have hl:=(List.getElem?_eq_some_iff.1 hi).1
  have h1:i<HV.length:=by rw[h.l2,←h.l1];exact hl
  have h2:i<H.length:=by rw[←h.l1];exact hl
  exact(h.ok i b _ _ hi (List.getElem?_eq_getElem h1) (List.getElem?_eq_getElem h2)).lt
theorem i2F (hlo:∀(t:Nat) d c,lv[t]? =some d→lh[t]? =some c→p1q I μ w d c) {b:Nat} (hb:0<zsum (lc b) lv lh):b<w.heap.size:=by
 obtain⟨t,d,c,hd,hc,hp⟩:=r1T _ hb
 have:=hlo t d c hd hc
 unfold lc at hp
 split at hp
 ·rename_i b' ws g cs
  by_cases e:b'=b
  ·subst e;exact BlockOk.lt this
  ·rw[if_neg e] at hp;exact BlockOk.ltc this (by omega)
 ·omega
theorem m1O (hlo:∀(t:Nat) d c,lv[t]? =some d→lh[t]? =some c→p1q I μ w d c) (he:Eff I w A J w') (hμ:LeN μ ν) (hA:∀b,A b→zsum (lc b) lv lh=0):
  ∀(t:Nat) d c,lv[t]? =some d→lh[t]? =some c→p1q J ν w' d c:=by
 intro t d c hd hc
 have h1:=hlo t d c hd hc
 have h2:∀b,A b→lc b d c=0:=fun b hb=>by have:=hA b hb;have:=g1H (lc b) hd hc;omega
 unfold p1q at *
 split
 ·rename_i b ws g cs
  refine BlockOk.eff h1 he hμ (fun hb=>?_) (fun g' hg=>?_)
  ·have:=h2 b hb;simp [lc] at this
  ·have:=h2 g' hg;simp only[lc] at this;omega
 ·trivial
 ·rename_i hx hy
  split at h1
  ·exact absurd rfl (hx _ _ _ _ rfl)
  ·exact absurd rfl (hy rfl)
  ·exact h1
theorem FInv.lt (h:FInv I μ HV lv w vs tm lh H) {b:Nat} (hb:0<μ.count b+tcss b HV H+zsum (lc b) lv lh+tcs b vs tm):b<w.heap.size:=by
 by_cases h1:0<μ.count b+tcss b HV H
 ·exact h.h.lt h1
 ·by_cases h2:0<zsum (lc b) lv lh
  ·exact i2F h.lo h2
  ·exact h.sp.lt h.tms (by omega)
theorem TRepL.set {vs:List Value} {asq:List AV} (h:TRepL I μ lh lv vs asq) (i:Nat) {v:Value} {a:AV} (k:TRep I μ lh lv v a):TRepL I μ lh lv (vs.set i v) (asq.set i a):=by
 refine⟨by simp [h.1],fun j w b hw hb=>?_⟩
 rw[List.getElem?_set] at hw hb
 by_cases hij:i=j
 ·rw[if_pos hij] at hw hb
  split at hw
  ·rename_i hl;rw[if_pos (by rw[←h.1];exact hl)] at hb;cases hw;cases hb;exact k
  ·simp at hw
 ·rw[if_neg hij] at hw hb;exact h.2 j w b hw hb
theorem AllSpare.set {vs:List Value} {asq:List AV} (hl:vs.length=asq.length) (h:AllSpare I w vs asq) (i:Nat) {v:Value} {a:AV} (k:SpareOk I w v a):AllSpare I w (vs.set i v) (asq.set i a):=by
 intro j u b hw hb
 rw[List.getElem?_set] at hw hb
 by_cases hij:i=j
 ·rw[if_pos hij] at hw hb
  split at hw
  ·rename_i hl';rw[if_pos (by rw[←hl];exact hl')] at hb;cases hw;cases hb;exact k
  ·simp at hw
 ·rw[if_neg hij] at hw hb;exact h j u b hw hb
theorem r1r {vs:List Value} {asq:List AV} (hl:vs.length=asq.length) (i:Nat) (v:Value) (a:AV) (b:Nat):tcs b (vs.set i v) (asq.set i a)≤tcs b vs asq+tc b v a:=by
 by_cases hi:i<vs.length
 ·have:=e1U (tc b) hl (a':=v) (b':=a) (List.getElem?_eq_getElem hi) (List.getElem?_eq_getElem (by rw[←hl];exact hi))
  simp only[tcs];omega
 ·rw[List.set_eq_of_length_le (by omega),List.set_eq_of_length_le (by omega)];simp only[tcs];omega
def putV (vs:List Value) (d:Option Tmp) (v:Value):List Value:=
 match d with
 |some t=>vs.set t v
 |none=>vs
theorem TRepL.modify {vs:List Value} {asq:List AV} (h:TRepL I μ lh lv vs asq) (t:Nat):TRepL I μ lh lv vs (asq.modify t AV.dis):=by
 refine⟨by simp [h.1],fun j w b hw hb=>?_⟩
 rw[List.getElem?_modify] at hb
 cases ha:asq[j]? with
 |none=>simp [ha] at hb
 |some a=>
  simp only[ha,Option.map_some,Option.some.injEq] at hb
  have h1:=h.2 j w a hw ha
  by_cases e:t=j
  ·simp [e] at hb;subst hb;exact h1.dis
  ·simp [e] at hb;subst hb;exact h1
theorem AllSpare.modify {vs:List Value} {asq:List AV} (h:AllSpare I w vs asq) (t:Nat):AllSpare I w vs (asq.modify t AV.dis):=by
 intro j u b hw hb
 rw[List.getElem?_modify] at hb
 cases ha:asq[j]? with
 |none=>simp [ha] at hb
 |some a=>
  simp only[ha,Option.map_some,Option.some.injEq] at hb
  by_cases e:t=j
  ·simp [e] at hb;subst hb;exact SpareOk.dis I w _ _
  ·simp [e] at hb;subst hb;exact h j u a hw ha
theorem y1P {vs:List Value} {asq:List AV} (t b:Nat) {v:Value} {a:AV} (hl:vs.length=asq.length) (hv:vs[t]? =some v) (ha:asq[t]? =some a):tcs b vs (asq.modify t AV.dis)+tc b v a=tcs b vs asq:=by
 have e:asq.modify t AV.dis=asq.set t a.dis:=by
  apply List.ext_getElem?
  intro j
  rw[List.getElem?_modify,List.getElem?_set]
  by_cases h:t=j
  ·subst h
   obtain⟨h1,h2⟩:=List.getElem?_eq_some_iff.1 ha
   simp [h1,h2]
  ·simp [h]
 have e2:vs.set t v=vs:=by
  apply List.ext_getElem?
  intro j
  rw[List.getElem?_set]
  by_cases h:t=j
  ·subst h
   obtain⟨h1,h2⟩:=List.getElem?_eq_some_iff.1 hv
   simp [h1,h2]
  ·simp [h]
 have:=e1U (tc b) hl (a':=v) (b':=a.dis) hv ha
 rw[e2,←e,r1e] at this
 simpa using this
def b1f (vs:List Value):Operand→Value
 | .tmp t=>vs.getD t undef
 | .const v=>v
 | .global g=>.pointer (some ⟨g,0,none⟩)
 | .func f=>.func (.func f) #[] #[]
theorem k1e (h:TRepL I μ lh lv vs tm) (x:Operand):TRep I μ lh lv (b1f vs x) (e1I tm x):=by
 cases x with
 |tmp t=>
  simp only[b1f,e1I,List.getD_eq_getElem?_getD]
  cases ha:tm[t]? with
  |none=>simp;exact .any _ .nil
  |some a=>
   have ht:t<vs.length:=by rw[h.1];exact(List.getElem?_eq_some_iff.1 ha).1
   simp [List.getElem?_eq_getElem ht]
   exact h.2 t _ a (List.getElem?_eq_getElem ht) ha
 |const v=>exact .of (.ofVal v)
 |global g=>exact .of (.val _ .nil)
 |func f=>exact .of (.func _ _ _ _ _ .nil .nil .nil)
theorem p1r (h:TRepL I μ lh lv vs tm) (hs:AllSpare I w vs tm) (x:Operand):SpareOk I w (b1f vs x) (e1I tm x):=by
 cases x with
 |tmp t=>
  simp only[b1f,e1I,List.getD_eq_getElem?_getD]
  cases ha:tm[t]? with
  |none=>simp;intro _ _ _ _ _ _ _ h;cases h
  |some a=>
   have ht:t<vs.length:=by rw[h.1];exact(List.getElem?_eq_some_iff.1 ha).1
   simp [List.getElem?_eq_getElem ht]
   exact hs t _ a (List.getElem?_eq_getElem ht) ha
 |const v=>exact(e1q v).spare w _
 |global g=>intro _ _ _ _ _ _ _ h;cases h
 |func f=>intro _ _ _ _ _ _ _ h;cases h
theorem q1G (x:Operand) (b:Nat) (hx:∀t,x≠ .tmp t):tc b (b1f vs x) (e1I tm x)=0:=by
 cases x with
 |tmp t=>exact absurd rfl (hx t)
 |const v=>exact(e1q v).tc b _
 |global g=>rfl
 |func f=>rfl
theorem l1d (s:List AV):∀(xs:List Operand) (ms:List Bool),(vals s xs ms).length=xs.length
 |[],_=>rfl
 |x::r,b::bs=>by simp [vals,l1d s r bs]
 |x::r,[]=>by simp [vals,l1d s r []]
theorem o1f (s:List AV):∀(xs:List Operand) (ms:List Bool) (i:Nat) (x:Operand),xs[i]? =some x→(vals s xs ms)[i]? =some (if ms.getD i false then e1I s x else (e1I s x).dis)
 |[],_,i,x,h=>by simp at h
 |y::r,b::bs,0,x,h=>by simp at h;subst h;simp [vals]
 |y::r,[],0,x,h=>by simp at h;subst h;simp [vals]
 |y::r,b::bs,i+1,x,h=>by simpa [vals] using o1f s r bs i x (by simpa using h)
 |y::r,[],i+1,x,h=>by simpa [vals] using o1f s r [] i x (by simpa using h)
theorem l1Y (h:TRepL I μ lh lv vs tm) (xs:List Operand) (ms:List Bool):TRepL I μ lh lv (xs.map (b1f vs)) (vals tm xs ms):=by
 refine⟨by simp [l1d],fun i v a hv ha=>?_⟩
 rw[List.getElem?_map] at hv
 cases hx:xs[i]? with
 |none=>simp [hx] at hv
 |some x=>
  simp [hx] at hv;subst hv
  rw[o1f _ _ _ _ _ hx] at ha
  simp only[Option.some.injEq] at ha;subst ha
  split
  ·exact k1e h x
  ·exact(k1e h x).dis
theorem i1y (h:TRepL I μ lh lv vs tm) (hs:AllSpare I w vs tm) (xs:List Operand) (ms:List Bool):AllSpare I w (xs.map (b1f vs)) (vals tm xs ms):=by
 intro i v a hv ha
 rw[List.getElem?_map] at hv
 cases hx:xs[i]? with
 |none=>simp [hx] at hv
 |some x=>
  simp [hx] at hv;subst hv
  rw[o1f _ _ _ _ _ hx] at ha
  simp only[Option.some.injEq] at ha;subst ha
  split
  ·exact p1r h hs x
  ·exact SpareOk.dis I w _ _
theorem e2y (h:TRepL I μ lh lv vs tm):∀(xs:List Operand) (ms:List Bool),TRepL I μ lh lv vs (disT tm xs ms):=by
 intro xs
 induction xs generalizing tm with
 |nil=>intro ms;simpa [disT] using h
 |cons x xs ih=>
  intro ms
  cases ms with
  |nil=>cases x<;>simpa [disT] using h
  |cons b bs=>cases x<;>cases b<;>simp only[disT]<;>first|exact ih (h.modify _) bs|exact ih h bs
theorem y1Q (h:AllSpare I w vs tm):∀(xs:List Operand) (ms:List Bool),AllSpare I w vs (disT tm xs ms):=by
 intro xs
 induction xs generalizing tm with
 |nil=>intro ms;simpa [disT] using h
 |cons x xs ih=>
  intro ms
  cases ms with
  |nil=>cases x<;>simpa [disT] using h
  |cons b bs=>cases x<;>cases b<;>simp only[disT]<;>first|exact ih (h.modify _) bs|exact ih h bs
theorem n1z {t:Nat} {x:Operand} (hx:x≠ .tmp t) (s:List AV):e1I (s.modify t AV.dis) x=e1I s x:=by
 cases x with
 |tmp u=>
  have:t≠u:=fun h=>hx (by rw[h])
  simp [e1I,List.getD_eq_getElem?_getD,List.getElem?_modify,this]
 |_=>rfl
theorem b2F (a:AV):a.dis.dis=a.dis:=by
 cases a with
 |slice sz rows own=>cases own<;>rfl
 |_=>rfl
theorem j1D (t:Nat) (x:Operand) (s:List AV):(e1I (s.modify t AV.dis) x).dis=(e1I s x).dis:=by
 by_cases hx:x=.tmp t
 ·subst hx
  simp only[e1I,List.getD_eq_getElem?_getD,List.getElem?_modify]
  cases s[t]? with
  |none=>simp
  |some a=>simp [b2F]
 ·rw[n1z hx]
theorem l1e {t:Nat} (s:List AV):∀(xs:List Operand) (ms:List Bool),t ∉ a1q xs ms→vals (s.modify t AV.dis) xs ms=vals s xs ms
 |[],ms,_=>by cases ms<;>rfl
 |x::r,[],h=>by
  simp only[vals]
  rw[j1D,l1e s r [] (by cases r<;>simp [a1q])]
 |x::r,b::bs,h=>by
  simp only[vals]
  have h2:t ∉ a1q r bs:=by
   intro hm;apply h
   cases x<;>cases b<;>simp [a1q,hm]
  rw[l1e s r bs h2,j1D]
  cases b with
  |false=>rfl
  |true=>
   have:x≠ .tmp t:=by rintro rfl;apply h;simp [a1q]
   simp [n1z this]
theorem l1f (hl:vs.length=tm.length) (b:Nat):∀(xs:List Operand) (ms:List Bool),(a1q xs ms).Nodup→
  tcs b (xs.map (b1f vs)) (vals tm xs ms)+tcs b vs (disT tm xs ms)=tcs b vs tm:=by
 intro xs
 induction xs generalizing tm with
 |nil=>intro ms _;simp [disT,vals,zsum]
 |cons x xs ih=>
  intro ms hn
  cases ms with
  |nil=>
   have h1:∀(xs:List Operand),tcs b (xs.map (b1f vs)) (vals tm xs [])=0:=by
    intro xs;induction xs with
    |nil=>rfl
    |cons x xs ih=>simp only[List.map_cons,vals,zsum,r1e];simpa using ih
   have h2:disT tm (x::xs) []=tm:=by cases x<;>rfl
   rw[h1,h2];omega
  |cons m ms=>
   cases m with
   |false=>
    have hn':(a1q xs ms).Nodup:=by cases x<;>simpa [a1q] using hn
    have:=ih hl ms hn'
    have h2:disT tm (x::xs) (false::ms)=disT tm xs ms:=by cases x<;>rfl
    rw[h2];simp only[List.map_cons,vals,zsum,if_false,r1e,Bool.false_eq_true,tcs] at *;omega
   |true=>
    by_cases hx:∃t,x=.tmp t
    ·obtain⟨t,rfl⟩:=hx
     simp only[a1q,List.nodup_cons] at hn
     have h3:=ih (tm:=tm.modify t AV.dis) (by simp [hl]) ms hn.2
     rw[l1e tm xs ms hn.1] at h3
     simp only[List.map_cons,vals,zsum,if_true,disT]
     by_cases ht:t<tm.length
     ·have ht2:t<vs.length:=by rw[hl];exact ht
      have h4:=y1P t b (v:=vs[t]) (a:=tm[t]) hl (List.getElem?_eq_getElem ht2) (List.getElem?_eq_getElem ht)
      have e1:b1f vs (.tmp t)=vs[t]:=by simp [b1f,List.getD_eq_getElem?_getD,List.getElem?_eq_getElem ht2]
      have e2:e1I tm (.tmp t)=tm[t]:=by simp [e1I,List.getD_eq_getElem?_getD,List.getElem?_eq_getElem ht]
      rw[e1,e2];simp only[tcs] at *;omega
     ·have e:tm.modify t AV.dis=tm:=by
       apply List.ext_getElem?
       intro j
       rw[List.getElem?_modify]
       by_cases h:t=j
       ·subst h;simp [List.getElem?_eq_none (Nat.le_of_not_lt ht)]
       ·simp [h]
      have e2:e1I tm (.tmp t)=.any:=by simp [e1I,List.getD_eq_getElem?_getD,List.getElem?_eq_none (Nat.le_of_not_lt ht)]
      rw[e] at h3⊢
      rw[e2]
      have:tc b (b1f vs (.tmp t)) .any=0:=by unfold tc;split<;>simp_all
      rw[this];simp only[tcs] at *;omega
    ·have hx':∀t,x≠ .tmp t:=fun t h=>hx ⟨t,h⟩
     have hn':(a1q xs ms).Nodup:=by cases x<;>first|simpa [a1q] using hn|exact absurd rfl (hx' _)
     have h3:=ih hl ms hn'
     have h2:disT tm (x::xs) (true::ms)=disT tm xs ms:=by cases x<;>first|rfl|exact absurd rfl (hx' _)
     rw[h2];simp only[List.map_cons,vals,zsum,if_true]
     rw[q1G x b hx'];simp only[tcs] at *;omega
end
end Go.Eng
end

section
/-
  THE ENGINE, part 7: one operation's step, but for calls.
-/
set_option linter.unusedVariables false
set_option linter.unusedSimpArgs false
namespace Go.Eng
def tok (μ:List Nat) (HV:List (List Value)) (H:Heap) (lv:List LV) (lh:List (Option LCell)) (vs:List Value) (tm:List AV) (b:Nat):Nat:=
 μ.count b+tcss b HV H+zsum (lc b) lv lh+tcs b vs tm
section
variable {P:Program} {I J:Mem} {μ ν:List Nat} {HV:List (List Value)} {lh:List (Option LCell)} {lv:List LV} {w w':World} {vs:List Value} {tm:List AV} {H:Heap} {A:Nat→Prop}
theorem FInv.eff (h:FInv I μ HV lv w vs tm lh H) (he:Eff I w A J w') (hJ:ImmOk J w') (hA:∀b,A b→tok μ HV H lv lh vs tm b=0):FInv J μ HV lv w' vs tm lh H:=by
 unfold tok at hA
 exact⟨h.h.eff he hJ fun b hb=>by have:=hA b hb;omega,⟨h.tms.1,fun i v a hv ha=>(h.tms.2 i v a hv ha).mono he.le (.refl μ)⟩,h.sp.eff he fun b hb=>by have:=hA b hb;omega,h.ll,
  m1O h.lo he (.refl μ) fun b hb=>by have:=hA b hb;omega,h.one⟩
theorem FInv.dis (h:FInv I μ HV lv w vs tm lh H) (xs:List Operand) (ms:List Bool) (hn:(a1q xs ms).Nodup):FInv I μ HV lv w vs (disT tm xs ms) lh H:=
 ⟨h.h,e2y h.tms xs ms,y1Q h.sp xs ms,h.ll,h.lo,fun b=>by have:=h.one b;have:=l1f h.tms.1 b xs ms hn;omega⟩
theorem FInv.put (h:FInv I μ HV lv w vs tm lh H) (d:Option Tmp) {v:Value} {r:AV} (hr:TRep I μ lh lv v r) (hs:SpareOk I w v r) (hc:∀b,tok μ HV H lv lh vs tm b+tc b v r≤1):
  FInv I μ HV lv w (putV vs d v) (putT tm d r) lh H:=by
 cases d with
 |none=>exact h
 |some t=>
  refine⟨h.h,h.tms.set t hr,h.sp.set h.tms.1 t hs,h.ll,h.lo,fun b=>?_⟩
  have:=hc b
  have h2:=r1r h.tms.1 t v r b
  simp only[putV,putT]
  unfold tok at this
  omega
theorem c1R (hl:vs.length=tm.length) (d:Option Tmp) (v:Value) (r:AV) (b:Nat):tok μ HV H lv lh (putV vs d v) (putT tm d r) b≤tok μ HV H lv lh vs tm b+tc b v r:=by
 cases d with
 |none=>simp [putV,putT]
 |some t=>have:=r1r hl t v r b;simp only[putV,putT];unfold tok;omega
structure Stp (I:Mem) (μ:List Nat) (HV:List (List Value)) (lv:List LV) (w:World) (vs:List Value) (tm:List AV) (lh:List (Option LCell)) (H:Heap)
  (J:Mem) (ν:List Nat) (HV':List (List Value)) (lv':List LV) (w':World) (vs':List Value) (tm':List AV) (lh':List (Option LCell)) (H':Heap):Prop where
 inv:FInv J ν HV' lv' w' vs' tm' lh' H'
 eff:Eff I w (fun b=>0<tok μ HV H lv lh vs tm b) J w'
 tok:∀b,0<tok ν HV' H' lv' lh' vs' tm' b→0<tok μ HV H lv lh vs tm b∨w.heap.size≤b
 mu:LeN μ ν
theorem b2G (h:FInv I μ HV lv w vs tm lh H) {o:Oper} {ms:List Bool} {r:AV} (hn:(a1q o.op.operands.toList ms).Nodup) (hr:j1P P o (vals tm o.op.operands.toList ms)=some r):
  ∃v' w' J,(execOp (b1f vs) o).run P w=.ok (.value v') w'∧
   Stp I μ HV lv w vs tm lh H J μ HV lv w' (putV vs o.dst v') (putT (disT tm o.op.operands.toList ms) o.dst r) lh H:=by
 obtain⟨v',w',J,e1,e2,e3,e4,e5,e6⟩:=w1b h.h.imm (l1Y h.tms o.op.operands.toList ms) (i1y h.tms h.sp _ ms) hr
 have hd:=h.dis o.op.operands.toList ms hn
 have hmc:=fun b=>l1f h.tms.1 b o.op.operands.toList ms hn
 have hA:∀b,tcs b (o.op.operands.toList.map (b1f vs)) (vals tm o.op.operands.toList ms)≠0→Eng.tok μ HV H lv lh vs (disT tm o.op.operands.toList ms) b=0:=fun b hb=>by
  have h1:=h.one b
  have h2:=hmc b
  unfold Eng.tok;omega
 have h2:=hd.eff e2 e3 hA
 have hcnt:∀b,Eng.tok μ HV H lv lh vs (disT tm o.op.operands.toList ms) b+tc b v' r≤1:=fun b=>by
  by_cases hb:b<w.heap.size
  ·have:=e6 b hb;have:=h.one b;have:=hmc b;unfold Eng.tok;omega
  ·have:Eng.tok μ HV H lv lh vs (disT tm o.op.operands.toList ms) b=0:=by
    rcases Nat.eq_zero_or_pos (Eng.tok μ HV H lv lh vs (disT tm o.op.operands.toList ms) b) with h0|h0
    ·exact h0
    ·exact absurd (hd.lt h0) hb
   have:=tc_le b v' r;omega
 refine⟨v',w',J,e1,h2.put o.dst e4 e5 hcnt,e2.mono fun b hb=>?_,fun b hb=>?_,.refl μ⟩
 ·have:=hmc b;unfold Eng.tok;omega
 ·by_cases hbs:b<w.heap.size
  ·left
   have h1:=c1R (μ:=μ) (HV:=HV) (H:=H) (lv:=lv) (lh:=lh) hd.tms.1 o.dst v' r b
   have:=e6 b hbs
   have:=hmc b
   unfold Eng.tok at *;omega
  ·right;omega
theorem j1g:∀(new:List AV) (cs:List AV) (off:Nat),off+new.length≤cs.length→b1M cs off new=cs.take off++new++cs.drop (off+new.length)
 |[],cs,off,h=>by simp [b1M]
 |v::r,cs,off,h=>by
  simp only[List.length_cons] at h
  rw[b1M,j1g r _ _ (by simp;omega)]
  apply List.ext_getElem?
  intro j
  simp only[List.getElem?_append,List.getElem?_take,List.getElem?_drop,List.getElem?_set,List.length_append,List.length_take,List.length_set,List.length_cons]
  have e1:min (off+1) cs.length=off+1:=by omega
  have e2:min off cs.length=off:=by omega
  rw[e1,e2]
  by_cases h1:j<off
  ·rw[if_pos (by omega),if_pos (by omega),if_pos (by omega),if_neg (by omega),if_pos (by omega),if_pos (by omega),if_pos (by omega)]
  ·by_cases h2:j=off
   ·subst h2
    rw[if_pos (by omega),if_pos (by omega),if_pos (by omega),if_pos rfl,if_pos (by omega),if_pos (by omega),if_neg (by omega)]
    simp
   ·by_cases h3:j<off+1+r.length
    ·rw[if_pos (by omega),if_neg (by omega),if_pos (by omega),if_neg (by omega)]
     have:j-off=(j-(off+1))+1:=by omega
     rw[this];simp
    ·rw[if_neg (by omega),if_neg (by omega),if_neg (by omega)]
     congr 1;omega
theorem p1s {ws:List Value} {cs:List AV} (hl:ws.length=cs.length) (b n:Nat):tcs b ws cs=tcs b (ws.take n) (cs.take n)+tcs b (ws.drop n) (cs.drop n):=by
 have:=c1T (tc b) (l:=ws.take n) (l':=ws.drop n) (m:=cs.take n) (m':=cs.drop n) (by simp [hl])
 simpa using this
theorem AllSpare.append {ws us:List Value} {cs ds:List AV} (hl:ws.length=cs.length) (h:AllSpare I w ws cs) (k:AllSpare I w us ds):AllSpare I w (ws++us) (cs++ds):=by
 intro i v a hv ha
 by_cases hi:i<ws.length
 ·rw[List.getElem?_append_left hi] at hv
  rw[List.getElem?_append_left (by omega)] at ha
  exact h i v a hv ha
 ·rw[List.getElem?_append_right (by omega)] at hv
  rw[List.getElem?_append_right (by omega),←hl] at ha
  exact k _ v a hv ha
theorem AllSpare.take {ws:List Value} {cs:List AV} (h:AllSpare I w ws cs) (n:Nat):AllSpare I w (ws.take n) (cs.take n):=by
 intro i v a hv ha
 rw[List.getElem?_take] at hv ha
 split at hv
 ·rename_i hi;rw[if_pos hi] at ha;exact h i v a hv ha
 ·cases hv
theorem AllSpare.drop {ws:List Value} {cs:List AV} (h:AllSpare I w ws cs) (n:Nat):AllSpare I w (ws.drop n) (cs.drop n):=by
 intro i v a hv ha
 rw[List.getElem?_drop] at hv ha
 exact h _ v a hv ha
theorem y1R {v:Value} {a:AV} {cs:List AV} (hr:Rep I μ v a) (hs:SpareOk I w v a) (h:a.scells=some cs):
  RepL I μ v.cells.toList cs∧OneCells v.cells.toList∧AllSpare I w v.cells.toList cs∧∀b,tcs b v.cells.toList cs≤tc b v a:=by
 unfold AV.scells at h
 split at h
 ·rename_i sz rows own
  simp only[Option.some.injEq] at h;subst h
  obtain⟨h1,h2⟩:=l1J (cs:=[.slice sz rows own]) hr rfl
  have e:v.cells.toList=[v]:=by cases hr<;>rfl
  rw[e] at h1 h2⊢
  refine⟨h1,h2,?_,fun b=>by simp [zsum]⟩
  intro i u c hu hc
  cases i with
  |zero=>simp at hu hc;subst hu hc;exact hs
  |succ i=>simp at hu
 ·simp only[Option.map_eq_some_iff] at h
  obtain⟨l,hl,rfl⟩:=h
  obtain⟨h1,h2⟩:=l1J hr hl
  refine⟨h1.dis,h2,?_,fun b=>by rw[g2V];exact Nat.zero_le _⟩
  intro i u c hu hc
  rw[List.getElem?_map] at hc
  cases hx:l[i]? with
  |none=>simp [hx] at hc
  |some x=>simp [hx] at hc;subst hc;exact SpareOk.dis I w _ _
theorem u1y (hI:ImmOk I w) {b off n:Nat} {ws:List Value} {cs new:List AV} {t:TypeId} {v:Value} {a:AV} (hB:BlockOk I μ w b ws cs) (hr:Rep I μ v a) (hs:SpareOk I w v a) (hn:a.scells=some new)
  (hsz:size? P t=some n) (hl:new.length=n) (hle:off+n≤cs.length) (hb:tc b v a=0) (hb0:tcs b ws cs=0):
  ∃w' ws',(Instr.storeAt t (.pointer (some ⟨b,off,none⟩)) v).run P w=.ok () w'∧Eff I w (fun g=>g=b) I w'∧ImmOk I w'∧BlockOk I μ w' b ws' (b1M cs off new)∧
   ∀g,tcs g ws' (b1M cs off new)≤tcs g ws cs+tc g v a:=by
 obtain⟨⟨e,h1⟩,h2,h3,h4,h5⟩:=hB
 obtain⟨n1,n2,n3,n4⟩:=y1R hr hs hn
 have hlw:=h2.length
 have hln:=n1.length
 have hst:=run_storeCells_at P b off e v.cells.toList 0 ws.toArray w h1 (by simp at hln⊢;omega) n2
 simp only[Nat.add_zero,List.size_toArray] at hst
 have hrow:=setRow_heap w b ws.toArray (ws.take off++v.cells.toList++ws.drop (off+v.cells.toList.length)).toArray e (0,0) h1
 have hef:Eff I w (fun g=>g=b) I (w.setRow b (ws.take off++v.cells.toList++ws.drop (off+v.cells.toList.length)).toArray):=
  ⟨.refl I,fun _ _ _ h=>.inl h,fun g _ hg=>h1L w b _ hg,by simp [World.setRow],rfl,rfl,rfl⟩
 refine⟨w.setRow b (ws.take off++v.cells.toList++ws.drop (off+v.cells.toList.length)).toArray,ws.take off++v.cells.toList++ws.drop (off+v.cells.toList.length),?_,hef,?_,?_,?_⟩
 ·have hne:¬(v.cells.size≠n):=by simp at hln;omega
  simp [Instr.storeAt,Instr.sureAddr,storeVar,e1B hsz,hst]
  simpa using hne
 ·intro b' o v hv
  obtain⟨x1,x2⟩:=hI b' o v hv
  refine⟨?_,x2⟩
  by_cases hbb:b'=b
  ·subst hbb;rw[h5 o] at hv;cases hv
  ·rw[f1y (h1L w b _ (b:=b') hbb)];exact x1
 ·rw[j1g _ _ _ (by omega)]
  rw[show off+new.length=off+v.cells.toList.length by omega]
  refine⟨⟨e,hrow⟩,((h2.take off).append n1).append (h2.drop _),?_,?_,h5⟩
  ·intro u hu
   rcases List.mem_append.1 hu with hu|hu
   ·rcases List.mem_append.1 hu with hu|hu
    ·exact h3 u (List.mem_of_mem_take hu)
    ·exact n2 u hu
   ·exact h3 u (List.mem_of_mem_drop hu)
  ·have k0:∀n,tcs b (ws.take n) (cs.take n)=0∧tcs b (ws.drop n) (cs.drop n)=0:=fun n=>by have:=p1s hlw b n;omega
   refine AllSpare.append (by simp [hln,hlw]) (AllSpare.append (by simp [hlw]) ((h4.take off).eff hef fun g hg=>by subst hg;exact(k0 off).1) (n3.eff hef fun g hg=>by subst hg;have:=n4 g;omega)) ((h4.drop _).eff hef fun g hg=>by subst hg;exact(k0 _).2)
 ·intro g
  rw[j1g _ _ _ (by omega),show off+new.length=off+v.cells.toList.length by omega]
  have e1:=c1T (tc g) (l:=ws.take off++v.cells.toList) (l':=ws.drop (off+v.cells.toList.length)) (m:=cs.take off++new) (m':=cs.drop (off+v.cells.toList.length)) (by simp [hln,hlw])
  have e2:=c1T (tc g) (l:=ws.take off) (l':=v.cells.toList) (m:=cs.take off) (m':=new) (by simp [hlw])
  have e3:=p1s hlw g off
  have e4:=p1s (ws:=ws.drop off) (cs:=cs.drop off) (by simp [hlw]) g v.cells.toList.length
  rw[List.drop_drop,List.drop_drop] at e4
  have:=n4 g
  simp only[tcs] at *
  rw[e1,e2];omega
theorem g1j {α:Type} {l:List α} {i:Nat} {a:α} (h:l[i]? =some a):l.set i a=l:=by
 apply List.ext_getElem?
 intro j
 rw[List.getElem?_set]
 by_cases hj:i=j
 ·subst hj
  obtain⟨h1,h2⟩:=List.getElem?_eq_some_iff.1 h
  simp [h1,h2]
 ·simp [hj]
theorem FInv.setLoc (h:FInv I μ HV lv w vs tm lh H) {l:Nat} {d d':LV} {c c':Option LCell} (hd:lv[l]? =some d) (hc:lh[l]? =some c) (he:Eff I w A I w') (hI:ImmOk I w')
  (hA:∀g,A g→Eng.tok μ HV H lv lh vs tm g=lc g d c) (hok:p1q I μ w' d' c') (htr:∀v a,TRep I μ lh lv v a→TRep I μ (lh.set l c') (lv.set l d') v a)
  (hcnt:∀g,Eng.tok μ HV H lv lh vs tm g+lc g d' c'≤1+lc g d c):FInv I μ HV (lv.set l d') w' vs tm (lh.set l c') H:=by
 have hz:∀g,A g→zsum (lc g) (lv.set l none) (lh.set l none)=0∧μ.count g+tcss g HV H=0∧tcs g vs tm=0:=fun g hg=>by
  have h1:=hA g hg
  have h2:=e1U (lc g) h.ll (a':=none) (b':=none) hd hc
  have h3:lc g none none=0:=rfl
  unfold Eng.tok at h1
  omega
 refine⟨h.h.eff he hI fun b hb=>(hz b hb).2.1,⟨h.tms.1,fun i v a hv ha=>htr v a (h.tms.2 i v a hv ha)⟩,h.sp.eff he fun b hb=>(hz b hb).2.2,by simp [h.ll],?_,?_⟩
 ·intro t dd cc hdd hcc
  by_cases e:l=t
  ·subst e
   rw[List.getElem?_set] at hdd hcc
   simp only[if_true] at hdd hcc
   rw[if_pos (List.getElem?_eq_some_iff.1 hd).1] at hdd
   rw[if_pos (List.getElem?_eq_some_iff.1 hc).1] at hcc
   cases hdd;cases hcc;exact hok
  ·have hdd':lv[t]? =some dd:=by rw[List.getElem?_set_ne e] at hdd;exact hdd
   have hcc':lh[t]? =some cc:=by rw[List.getElem?_set_ne e] at hcc;exact hcc
   have h1:=h.lo t dd cc hdd' hcc'
   have h2:∀b,A b→lc b dd cc=0:=fun b hb=>by
    have h3:=(hz b hb).1
    have h4:=g1H (lc b) (l:=lv.set l none) (m:=lh.set l none) (i:=t) (by rw[List.getElem?_set_ne e];exact hdd') (by rw[List.getElem?_set_ne e];exact hcc')
    omega
   have:=m1O (lv:=[dd]) (lh:=[cc]) (fun t' d1 c1 hd1 hc1=>by
    cases t' with
    |zero=>simp at hd1 hc1;subst hd1 hc1;exact h1
    |succ t'=>simp at hd1) he (.refl μ) (fun b hb=>by simp [zsum,h2 b hb]) 0 dd cc rfl rfl
   exact this
 ·intro g
  have h1:=hcnt g
  have h2:=e1U (lc g) h.ll (a':=d') (b':=c') hd hc
  unfold Eng.tok at h1
  omega
theorem k1v (hl:lv.length=lh.length) {l:Nat} {d d':LV} {c c':Option LCell} (hd:lv[l]? =some d) (hc:lh[l]? =some c) (g:Nat):
  Eng.tok μ HV H (lv.set l d') (lh.set l c') vs tm g+lc g d c=Eng.tok μ HV H lv lh vs tm g+lc g d' c':=by
 have h2:=e1U (lc g) hl (a':=d') (b':=c') hd hc
 unfold Eng.tok;omega
theorem TRep.setLoc {l g:Nat} {b:Nat} {ws ws':List Value} {cs cs':List AV} (hd:lv[l]? =some (some (b,ws))) (hc:lh[l]? =some (some (g,cs))) {v:Value} {a:AV} (h:TRep I μ lh lv v a):
  TRep I μ (lh.set l (some (g,cs'))) (lv.set l (some (b,ws'))) v a:=by
 cases a with
 |lp t g1 off=>
  obtain⟨g',cs1,b1,ws1,e1,e2,e3,b',e4,e5⟩:=h
  by_cases e:l=t
  ·subst e
   rw[hc] at e1;rw[hd] at e2
   cases e1;cases e2
   exact⟨g,cs',b,ws',by rw[List.getElem?_set,if_pos rfl,if_pos (List.getElem?_eq_some_iff.1 hc).1],by rw[List.getElem?_set,if_pos rfl,if_pos (List.getElem?_eq_some_iff.1 hd).1],e3,b',e4,e5⟩
  ·exact⟨g',cs1,b1,ws1,by rw[List.getElem?_set_ne e];exact e1,by rw[List.getElem?_set_ne e];exact e2,e3,b',e4,e5⟩
 |_=>exact h
theorem TRep.newLoc {l g:Nat} {b:Nat} {ws:List Value} {cs:List AV} {d:LV} {c:Option LCell} (hd:lv[l]? =some d) (hc:lh[l]? =some c) (hg:∀g0 cs0,c=some (g0,cs0)→g=g0+1) {v:Value} {a:AV} (h:TRep I μ lh lv v a):
  TRep I μ (lh.set l (some (g,cs))) (lv.set l (some (b,ws))) v a:=by
 cases a with
 |lp t g1 off=>
  obtain⟨g',cs1,b1,ws1,e1,e2,e3,b',e4,e5⟩:=h
  by_cases e:l=t
  ·subst e
   rw[hc] at e1
   cases e1
   have:=hg g' cs1 rfl
   exact⟨g,cs,b,ws,by rw[List.getElem?_set,if_pos rfl,if_pos (List.getElem?_eq_some_iff.1 hc).1],by rw[List.getElem?_set,if_pos rfl,if_pos (List.getElem?_eq_some_iff.1 hd).1],by omega,b',e4,fun hgg=>by omega⟩
  ·exact⟨g',cs1,b1,ws1,by rw[List.getElem?_set_ne e];exact e1,by rw[List.getElem?_set_ne e];exact e2,e3,b',e4,e5⟩
 |_=>exact h
theorem k1L {o:Oper} {avs:List AV} {cs:List AV} (h:c1D P o avs=some cs) (ws:List Value):(∀b,tcs b ws cs=0)∧∀(I:Mem) (w:World),AllSpare I w ws cs:=by
 have key:∀a∈cs,NoOwn a:=by
  unfold c1D at h
  split at h
  ·unfold zeroCells at h
   split at h
   ·split at h
    ·simp only[Option.some.injEq] at h;subst h
     intro a ha;simp at ha;obtain⟨x,_,rfl⟩:=ha;exact n1v x
    ·cases h
   ·cases h
  ·simp only[Option.map_eq_some_iff] at h
   obtain⟨l,_,rfl⟩:=h
   intro a ha;simp at ha;obtain⟨x,_,rfl⟩:=ha;exact .dis x
  ·cases h
 refine⟨fun b=>?_,fun I w i v a hv ha=>(key a (List.mem_of_getElem? ha)).spare w v⟩
 rcases Nat.eq_zero_or_pos (tcs b ws cs) with h0|h0
 ·exact h0
 ·obtain⟨i,v,a,hv,ha,hp⟩:=w1c h0
  rw[(key a (List.mem_of_getElem? ha)).tc] at hp;omega
end
end Go.Eng
end

section
/-
  THE ENGINE, part 8: steps in a frame's own variables and in the heap.
-/
set_option linter.unusedVariables false
set_option linter.unusedSimpArgs false
namespace Go.Eng
def p1t (n:Next) (v:Value):Prop:=n=.value v∨(n=.skip∧v=undef)
section
variable {P:Program} {cfg:FuncId→FCfg} {I J:Mem} {μ ν:List Nat} {HV:List (List Value)} {lh:List (Option LCell)} {lv:List LV} {w w':World} {vs:List Value} {tm:List AV} {H:Heap} {A:Nat→Prop}
theorem FInv.lv_get (h:FInv I μ HV lv w vs tm lh H) {l:Nat} {c:Option LCell} (hc:lh[l]? =some c):∃d,lv[l]? =some d∧p1q I μ w d c:=by
 have hl:l<lv.length:=by rw[h.ll];exact(List.getElem?_eq_some_iff.1 hc).1
 exact⟨lv[l],List.getElem?_eq_getElem hl,h.lo l _ c (List.getElem?_eq_getElem hl) hc⟩
theorem x1w (h:FInv I μ HV lv w vs tm lh H) {b:Nat} (hb:¬b<w.heap.size):tok μ HV H lv lh vs tm b=0:=by
 rcases Nat.eq_zero_or_pos (tok μ HV H lv lh vs tm b) with h0|h0
 ·exact h0
 ·exact absurd (h.lt h0) hb
theorem g1T (h:FInv I μ HV lv w vs tm lh H) (xs:List Operand) (ms:List Bool) (hn:(a1q xs ms).Nodup) (b:Nat):
  tok μ HV H lv lh vs (disT tm xs ms) b+tcs b (xs.map (b1f vs)) (vals tm xs ms)=tok μ HV H lv lh vs tm b:=by
 have:=l1f h.tms.1 b xs ms hn
 unfold tok;omega
theorem e2z (h:FInv I μ HV lv w vs tm lh H) {f:FuncId} {o:Oper} {ms:List Bool} (hn:(a1q o.op.operands.toList ms).Nodup) {l:Nat} {wr:Bool} {c c':Option LCell} {r:AV}
  (hcl:acls cfg f o (vals tm o.op.operands.toList ms)=.loc l wr) (hc:lh[l]? =some c) (hr:aloc P cfg f o (vals tm o.op.operands.toList ms) c=some (r,c')):
  ∃n v' w' lv',(execOp (b1f vs) o).run P w=.ok n w'∧p1t n v'∧
   Stp I μ HV lv w vs tm lh H I μ HV lv' w' (putV vs o.dst v') (putT (disT tm o.op.operands.toList ms) o.dst r) (lh.set l c') H:=by
 have hv:=l1Y h.tms o.op.operands.toList ms
 have hs:=i1y h.tms h.sp o.op.operands.toList ms
 have hd:=h.dis o.op.operands.toList ms hn
 have htd:=fun b=>g1T h o.op.operands.toList ms hn b
 obtain⟨d,hld,hlo⟩:=h.lv_get hc
 generalize hts:disT tm o.op.operands.toList ms=ts at *
 generalize hav:vals tm o.op.operands.toList ms=avs at *
 have hnew:∀cs g,c1D P o avs=some cs→(∀g0 cs0,c=some (g0,cs0)→g=g0+1)→o.dst=some l→
   ∃n v' w' lv',(execOp (b1f vs) o).run P w=.ok n w'∧p1t n v'∧
    Stp I μ HV lv w vs tm lh H I μ HV lv' w' (putV vs o.dst v') (putT ts o.dst (.lp l g 0)) (lh.set l (some (g,cs))) H:=by
  intro cs g hcs hg hdst
  obtain⟨e,cc,w',e1,e2,e3,e4⟩:=h1K hcs hv rfl
  obtain⟨k1,k2⟩:=k1L hcs cc.toList
  obtain⟨p1,p2,p3⟩:=e2.none h.h.imm (fun _=>False)
  have hok:p1q I μ w' (some (w.heap.size,cc.toList)) (some (g,cs)):=⟨⟨e,by simpa using e2.new⟩,e3,e4,k2 I w',p3⟩
  have hlt:∀g0,Eng.tok μ HV H lv lh vs ts g0≤1:=fun g0=>by have:=hd.one g0;unfold Eng.tok;exact this
  have h2:=hd.setLoc (d':=some (w.heap.size,cc.toList)) (c':=some (g,cs)) hld hc p1 p2 (fun _ h=>h.elim) hok (fun v a hva=>hva.newLoc hld hc hg) (fun g0=>by
   simp only[lc,k1]
   have:=hlt g0
   by_cases hh:w.heap.size=g0
   ·have:=x1w hd (b:=g0) (by omega);simp [hh];omega
   ·simp [hh];omega)
  have h3:=h2.put o.dst (v:=.pointer (some ⟨w.heap.size,0,none⟩)) (r:=.lp l g 0)
   ⟨g,cs,w.heap.size,cc.toList,by rw[List.getElem?_set,if_pos rfl,if_pos (List.getElem?_eq_some_iff.1 hc).1],by rw[List.getElem?_set,if_pos rfl,if_pos (List.getElem?_eq_some_iff.1 hld).1],Nat.le_refl _,_,rfl,fun _=>rfl⟩
   (fun _ _ _ _ _ _ _ h=>by cases h) (fun b=>by have:=h2.one b;unfold Eng.tok;simp only[tc];omega)
  refine⟨_,_,w',_,e1,.inl rfl,h3,p1.mono fun _ h=>h.elim,fun b hb=>?_,.refl μ⟩
  have t1:=c1R (μ:=μ) (HV:=HV) (H:=H) (lv:=lv.set l (some (w.heap.size,cc.toList))) (lh:=lh.set l (some (g,cs))) h2.tms.1 o.dst (.pointer (some ⟨w.heap.size,0,none⟩)) (.lp l g 0) b
  have t2:=k1v (μ:=μ) (HV:=HV) (H:=H) (vs:=vs) (tm:=ts) hd.ll (d':=some (w.heap.size,cc.toList)) (c':=some (g,cs)) hld hc b
  have t3:=htd b
  simp only[lc,k1,tc] at t1 t2
  by_cases hh:w.heap.size=b
  ·right;omega
  ·left;simp only[hh,if_false] at t2;omega
 unfold aloc at hr
 split at hr
 ·
  rename_i e hop
  split at hr
  ·rename_i t cs hdst hcs
   have hlt:t=l:=by simp only[acls,hop,hdst] at hcl;split at hcl;cases hcl;split at hcl;cases hcl;rfl;cases hcl
   subst hlt
   split at hr
   ·simp only[Option.some.injEq,Prod.mk.injEq] at hr;obtain⟨rfl,rfl⟩:=hr
    exact hnew cs 0 hcs (fun g0 cs0 e=>by simp at e) hdst
   ·rename_i g0 cs0
    simp only[Option.some.injEq,Prod.mk.injEq] at hr;obtain⟨rfl,rfl⟩:=hr
    exact hnew cs (g0+1) hcs (fun g1 cs1 e=>by cases e;rfl) hdst
  ·cases hr
 ·
  rename_i e x hop
  split at hr
  ·rename_i t cs hdst hcs
   have hlt:t=l:=by simp only[acls,hop,hdst] at hcl;split at hcl;cases hcl;split at hcl;cases hcl;rfl;cases hcl
   subst hlt
   split at hr
   ·simp only[Option.some.injEq,Prod.mk.injEq] at hr;obtain⟨rfl,rfl⟩:=hr
    exact hnew cs 0 hcs (fun g0 cs0 e=>by simp at e) hdst
   ·rename_i g0 cs0
    simp only[Option.some.injEq,Prod.mk.injEq] at hr;obtain⟨rfl,rfl⟩:=hr
    exact hnew cs (g0+1) hcs (fun g1 cs1 e=>by cases e;rfl) hdst
  ·cases hr
 ·
  rename_i t x l' g off hop
  obtain rfl:l'=l:=by simp only[acls,hop] at hcl;cases hcl;rfl
  split at hr
  ·rename_i g' cs
   split at hr
   ·rename_i hgg
    subst hgg
    simp only[hop,Op.operands] at hv hs
    obtain⟨g1,cs1,b1,ws1,q1,q2,q3,b',q4,q5⟩:=hv.uncons.1
    rw[hc] at q1;cases q1
    rw[hld] at q2;cases q2
    obtain rfl:=q5 rfl
    obtain⟨⟨e,k1⟩,k2,k3,k4,k5⟩:=hlo
    have hcells:CellsAt w b' 0 ws1:=CellsAt.block k1
    split at hr
    ·
     rename_i hmv
     split at hr
     ·rename_i u hagg hu
      simp only[Option.some.injEq,Prod.mk.injEq] at hr;obtain⟨rfl,rfl⟩:=hr
      obtain⟨wv,hwv,hwr⟩:=k2.get' hu
      have hrun:(execOp (b1f vs) o).run P w=.ok (.value wv) w:=by
       have:=hcells off wv hwv
       simp only[Nat.zero_add] at this
       simp [execOp,hop,q4,Instr.loadAt,Instr.sureAddr,loadVar,i1x hagg,this]
      have hsz:=e1U (tc 0) k2.length (a':=wv) (b':=u.dis) hwv hu
      have hsz':∀g0,tcs g0 ws1 (cs.set off u.dis)+tc g0 wv u=tcs g0 ws1 cs:=fun g0=>by
       have:=e1U (tc g0) k2.length (a':=wv) (b':=u.dis) hwv hu
       rw[g1j hwv,r1e] at this
       simpa using this
      have hok:p1q I μ w (some (b',ws1)) (some (g,cs.set off u.dis)):=by
       refine⟨⟨e,k1⟩,?_,k3,?_,k5⟩
       ·have:=k2.set off hwr.dis;rwa [g1j hwv] at this
       ·have:=AllSpare.set k2.length k4 off (SpareOk.dis I w wv u);rwa [g1j hwv] at this
      have h2:=hd.setLoc (A:=fun _=>False) (d':=some (b',ws1)) (c':=some (g,cs.set off u.dis)) hld hc (.refl _ _ _) h.h.imm (fun _ h=>h.elim) hok (fun v a hva=>hva.setLoc hld hc) (fun g0=>by
       have:=hd.one g0;have:=hsz' g0;simp only[lc];unfold Eng.tok;omega)
      have h3:=h2.put o.dst (v:=wv) (r:=u) (.of hwr) (k4 off wv u hwv hu) (fun b=>by
       have t2:=k1v (μ:=μ) (HV:=HV) (H:=H) (vs:=vs) (tm:=ts) hd.ll (d':=some (b',ws1)) (c':=some (g,cs.set off u.dis)) hld hc b
       have:=hd.one b;have:=hsz' b
       simp only[lc] at t2;unfold Eng.tok at *;omega)
      refine⟨_,wv,w,_,hrun,.inl rfl,h3,.refl _ _ _,fun b hb=>?_,.refl μ⟩
      left
      have t1:=c1R (μ:=μ) (HV:=HV) (H:=H) (lv:=lv.set l' (some (b',ws1))) (lh:=lh.set l' (some (g,cs.set off u.dis))) h2.tms.1 o.dst wv u b
      have t2:=k1v (μ:=μ) (HV:=HV) (H:=H) (vs:=vs) (tm:=ts) hd.ll (d':=some (b',ws1)) (c':=some (g,cs.set off u.dis)) hld hc b
      have t3:=htd b
      have:=hsz' b
      simp only[lc] at t2;omega
     ·cases hr
    ·
     simp only[Option.map_eq_some_iff] at hr
     obtain⟨u,hu,hr⟩:=hr
     simp only[Prod.mk.injEq] at hr;obtain⟨rfl,rfl⟩:=hr
     obtain⟨wv,r1,r2,r3⟩:=f1x (P:=P) hcells k3 k2 hu
     simp only[Nat.zero_add] at r1
     have hrun:(execOp (b1f vs) o).run P w=.ok (.value wv) w:=by
      simp [execOp,hop,q4,Instr.loadAt,Instr.sureAddr,r1]
     have h3:=hd.put o.dst (v:=wv) (r:=u) (.of r2) (r3.spare w wv) (fun b=>by rw[r3.tc];have:=hd.one b;unfold Eng.tok;omega)
     refine⟨_,wv,w,lv,hrun,.inl rfl,?_,.refl _ _ _,fun b hb=>?_,.refl μ⟩
     ·rw[g1j hc];exact h3
     ·left
      rw[g1j hc] at hb
      have t1:=c1R (μ:=μ) (HV:=HV) (H:=H) (lv:=lv) (lh:=lh) hd.tms.1 o.dst wv u b
      have t3:=htd b
      rw[r3.tc] at t1;omega
   ·cases hr
  ·cases hr
 ·
  rename_i t x y l' g off a hop
  obtain rfl:l'=l:=by simp only[acls,hop] at hcl;cases hcl;rfl
  split at hr
  ·rename_i g' cs new n hnew' hsz
   split at hr
   ·rename_i hb
    obtain⟨rfl,hl,hle⟩:=hb
    simp only[Option.some.injEq,Prod.mk.injEq] at hr;obtain⟨rfl,rfl⟩:=hr
    have hv':=hv
    simp only[hop,Op.operands] at hv hs
    obtain⟨g1,cs1,b1,ws1,q1,q2,q3,b',q4,q5⟩:=hv.uncons.1
    rw[hc] at q1;cases q1
    rw[hld] at q2;cases q2
    obtain rfl:=q5 rfl
    have hva:Rep I μ (b1f vs y) a:=hv.uncons.2.uncons.1.repOf (by rintro _ _ _ rfl;simp [AV.scells,AV.cells] at hnew')
    have hsa:SpareOk I w (b1f vs y) a:=hs 1 _ _ rfl rfl
    have hlcb:1≤lc b' (some (b',ws1)) (some (g,cs)):=by simp [lc]
    have hone:=h.one b'
    have hget:=g1H (lc b') hld hc
    have htd':∀b,Eng.tok μ HV H lv lh vs ts b+tc b (b1f vs y) a=Eng.tok μ HV H lv lh vs tm b:=fun b=>by
     have:=htd b
     simp only[hop,Op.operands,List.map_cons,List.map_nil,zsum] at this
     have e:tc b (b1f vs x) (.lp l' g off)=0:=by unfold tc;split<;>simp_all
     omega
    have hlt:lc b' (some (b',ws1)) (some (g,cs))≤Eng.tok μ HV H lv lh vs ts b':=by unfold Eng.tok;omega
    have htm:∀b,Eng.tok μ HV H lv lh vs tm b≤1:=fun b=>h.one b
    have hz1:=htd' b'
    have hz2:=htm b'
    have hb0:tcs b' ws1 cs=0:=by simp only[lc] at hlt;simp at hlt;simp only[tcs] at *;omega
    obtain⟨w',ws',s1,s2,s3,s4,s5⟩:=u1y (P:=P) h.h.imm hlo hva hsa hnew' hsz hl hle (by omega) hb0
    have hrun:(execOp (b1f vs) o).run P w=.ok .skip w':=by
     simp [execOp,hop,q4,s1]
    have h2:=hd.setLoc (A:=fun g=>g=b') (d':=some (b',ws')) (c':=some (g,b1M cs off new)) hld hc s2 s3
     (fun g0 hg0=>by subst hg0;simp only[lc] at *;simp at *;omega) s4 (fun v a hva=>hva.setLoc hld hc)
     (fun g0=>by have:=htd' g0;have:=htm g0;have:=s5 g0;simp only[lc];omega)
    have h3:=h2.put o.dst (v:=undef) (r:=.val undef) (.of (.val _ .nil)) (fun _ _ _ _ _ _ _ h=>by cases h) (fun b=>by have:=h2.one b;unfold Eng.tok;simp only[tc,undef];omega)
    refine⟨_,undef,w',_,hrun,.inr ⟨rfl,rfl⟩,h3,s2.mono fun g0 hg0=>by subst hg0;omega,fun b hb=>?_,.refl μ⟩
    left
    have t1:=c1R (μ:=μ) (HV:=HV) (H:=H) (lv:=lv.set l' (some (b',ws'))) (lh:=lh.set l' (some (g,b1M cs off new))) h2.tms.1 o.dst undef (.val undef) b
    have t2:=k1v (μ:=μ) (HV:=HV) (H:=H) (vs:=vs) (tm:=ts) hd.ll (d':=some (b',ws')) (c':=some (g,b1M cs off new)) hld hc b
    have t3:=htd' b
    have:=s5 b
    have t4:tc b undef (.val undef)=0:=rfl
    simp only[lc] at t2;omega
   ·cases hr
  ·cases hr
 ·cases hr
end
end Go.Eng
end

section
/-
  THE ENGINE, part 9: steps in the heap.
-/
set_option linter.unusedVariables false
set_option linter.unusedSimpArgs false
namespace Go.Eng
section
variable {P:Program} {cfg:FuncId→FCfg} {I J:Mem} {μ ν:List Nat} {HV:List (List Value)} {lh:List (Option LCell)} {lv:List LV} {w w':World} {vs:List Value} {tm:List AV} {H:Heap} {A:Nat→Prop}
theorem b2H {μ:List Nat} {b:Nat}:∀{i j:Nat},μ[i]? =some b→μ[j]? =some b→i≠j→2≤μ.count b:=by
 induction μ with
 |nil=>intro i j h;simp at h
 |cons x μ ih=>
  intro i j hi hj hij
  cases i with
  |zero=>
   simp at hi;subst hi
   cases j with
   |zero=>exact absurd rfl hij
   |succ j=>
    have:0<μ.count x:=List.count_pos_iff.2 (List.mem_of_getElem? (by simpa using hj))
    rw[List.count_cons_self];omega
  |succ i=>
   cases j with
   |zero=>
    simp at hj;subst hj
    have:0<μ.count x:=List.count_pos_iff.2 (List.mem_of_getElem? (by simpa using hi))
    rw[List.count_cons_self];omega
   |succ j=>
    have:=ih (i:=i) (j:=j) (by simpa using hi) (by simpa using hj) (by omega)
    have:=List.count_le_count_cons (a:=b) (b:=x) (l:=μ)
    omega
theorem HInv.get (h:HInv I μ HV w H) {id:Nat} {cs:List AV} (hc:H[id]? =some cs):∃b ws,μ[id]? =some b∧HV[id]? =some ws∧BlockOk I μ w b ws cs:=by
 have h0:=(List.getElem?_eq_some_iff.1 hc).1
 have h1:id<μ.length:=by rw[h.l1];exact h0
 have h2:id<HV.length:=by rw[h.l2];exact h0
 exact⟨_,_,List.getElem?_eq_getElem h1,List.getElem?_eq_getElem h2,h.ok id _ _ cs (List.getElem?_eq_getElem h1) (List.getElem?_eq_getElem h2) hc⟩
theorem x1x (hl:HV.length=H.length) {id:Nat} {ws ws':List Value} {cs cs':List AV} (hw:HV[id]? =some ws) (hc:H[id]? =some cs) (g:Nat):
  tcss g (HV.set id ws') (H.set id cs')+tcs g ws cs=tcss g HV H+tcs g ws' cs':=e1U (tcs g) hl hw hc
theorem FInv.setHeap (h:FInv I μ HV lv w vs tm lh H) {id b:Nat} {ws ws':List Value} {cs cs':List AV} (hm:μ[id]? =some b) (hw:HV[id]? =some ws) (hc:H[id]? =some cs)
  (he:Eff I w A I w') (hI:ImmOk I w') (hA:∀g,A g→g=b) (hok:BlockOk I μ w' b ws' cs')
  (hcnt:∀g,Eng.tok μ HV H lv lh vs tm g+tcs g ws' cs'≤1+tcs g ws cs):FInv I μ (HV.set id ws') lv w' vs tm lh (H.set id cs'):=by
 have hcb:0<μ.count b:=List.count_pos_iff.2 (List.mem_of_getElem? hm)
 have hone:=h.one b
 have hz:∀g,A g→g=b∧tcss g HV H=0∧zsum (lc g) lv lh=0∧tcs g vs tm=0:=fun g hg=>by
  have:=hA g hg
  subst this
  exact⟨rfl,by omega,by omega,by omega⟩
 refine⟨⟨hI,by simp [h.h.l1],by simp [h.h.l2],?_⟩,⟨h.tms.1,fun i v a hv ha=>h.tms.2 i v a hv ha⟩,h.sp.eff he fun g hg=>(hz g hg).2.2.2,h.ll,m1O h.lo he (.refl μ) fun g hg=>(hz g hg).2.2.1,fun g=>?_⟩
 ·intro j b2 ws2 cs2 hj1 hj2 hj3
  by_cases e:id=j
  ·subst e
   rw[hm] at hj1;cases hj1
   rw[List.getElem?_set,if_pos rfl,if_pos (List.getElem?_eq_some_iff.1 hw).1] at hj2
   rw[List.getElem?_set,if_pos rfl,if_pos (List.getElem?_eq_some_iff.1 hc).1] at hj3
   cases hj2;cases hj3;exact hok
  ·rw[List.getElem?_set_ne e] at hj2 hj3
   refine(h.h.ok j b2 ws2 cs2 hj1 hj2 hj3).eff he (.refl μ) (fun hAb=>?_) (fun g hg=>?_)
   ·obtain⟨rfl,_⟩:=hz b2 hAb
    have:=b2H hm hj1 e
    omega
   ·have h1:=(hz g hg).2.1
    have h2:=g1H (tcs g) hj2 hj3
    simp only[tcss] at h1;omega
 ·have h1:=hcnt g
  have h2:=x1x h.h.l2 (ws':=ws') (cs':=cs') hw hc g
  unfold Eng.tok at h1;omega
theorem p1u (hl:HV.length=H.length) {id:Nat} {ws ws':List Value} {cs cs':List AV} (hw:HV[id]? =some ws) (hc:H[id]? =some cs) (g:Nat):
  Eng.tok μ (HV.set id ws') (H.set id cs') lv lh vs tm g+tcs g ws cs=Eng.tok μ HV H lv lh vs tm g+tcs g ws' cs':=by
 have h2:=x1x hl (ws':=ws') (cs':=cs') hw hc g
 unfold Eng.tok;omega
theorem FInv.newHeap (h:FInv I μ HV lv w vs tm lh H) {n:Nat} {ws:List Value} {cs:List AV} (he:Eff I w (fun _=>False) I w') (hI:ImmOk I w') (hn:n=w.heap.size) (hok:BlockOk I μ w' n ws cs) (hcs:∀g,tcs g ws cs=0):
  FInv I (μ++[n]) (HV++[ws]) lv w' vs tm lh (H++[cs]):=by
 have hmu:=LeN.append μ [n]
 have h0:=x1w h (b:=n) (by omega)
 refine⟨⟨hI,by simp [h.h.l1],by simp [h.h.l2],?_⟩,⟨h.tms.1,fun i v a hv ha=>(h.tms.2 i v a hv ha).mono (.refl I) hmu⟩,h.sp.eff he fun _ h=>h.elim,h.ll,m1O h.lo he hmu fun _ h=>h.elim,fun g=>?_⟩
 ·intro j b2 ws2 cs2 hj1 hj2 hj3
  by_cases e:j<H.length
  ·rw[List.getElem?_append_left (by rw[h.h.l1];exact e)] at hj1
   rw[List.getElem?_append_left (by rw[h.h.l2];exact e)] at hj2
   rw[List.getElem?_append_left e] at hj3
   exact(h.h.ok j b2 ws2 cs2 hj1 hj2 hj3).eff he hmu (fun h=>h) (fun _ h=>h.elim)
  ·rw[List.getElem?_append_right (by rw[h.h.l1];omega)] at hj1
   rw[List.getElem?_append_right (by rw[h.h.l2];omega)] at hj2
   rw[List.getElem?_append_right (by omega)] at hj3
   have hj:j-H.length=0:=by
    have:=(List.getElem?_eq_some_iff.1 hj3).1
    simp at this;omega
   rw[h.h.l1,hj] at hj1
   rw[h.h.l2,hj] at hj2
   rw[hj] at hj3
   simp at hj1 hj2 hj3
   subst hj1 hj2 hj3
   obtain⟨k1,k2,k3,k4,k5⟩:=hok
   exact⟨k1,k2.mono (.refl I) hmu,k3,k4,k5⟩
 ·have h1:=c1T (tcs g) (l:=HV) (l':=[ws]) (m:=H) (m':=[cs]) h.h.l2
  have h2:=h.one g
  simp only[zsum,hcs] at h1
  rw[List.count_append]
  simp only[tcss] at *
  by_cases e:n=g
  ·subst e
   unfold Eng.tok at h0
   simp only[tcss] at h0
   simp;omega
  ·simp [e];omega
theorem s1k (h:FInv I μ HV lv w vs tm lh H) {f:FuncId} {o:Oper} {ms:List Bool} {call:FuncId→List AV→RM→Heap→Option CRes} (hn:(a1q o.op.operands.toList ms).Nodup) {g g':G} {r:AV} (hg:g.H=H)
  (hop:(∃e,o.op=.alloc e)∨(∃e x,o.op=.box e x)∨(∃t a,o.op=.load t a)∨(∃t a x,o.op=.store t a x))
  (hr:f1T P cfg call f o (vals tm o.op.operands.toList ms) g=some (.val r g')):
  ∃n v' w' ν HV',(execOp (b1f vs) o).run P w=.ok n w'∧p1t n v'∧g'.defers=g.defers∧g'.rm=g.rm∧
   Stp I μ HV lv w vs tm lh H I ν HV' lv w' (putV vs o.dst v') (putT (disT tm o.op.operands.toList ms) o.dst r) lh g'.H:=by
 subst hg
 have hv:=l1Y h.tms o.op.operands.toList ms
 have hs:=i1y h.tms h.sp o.op.operands.toList ms
 have hd:=h.dis o.op.operands.toList ms hn
 have htd:=fun b=>g1T h o.op.operands.toList ms hn b
 generalize hts:disT tm o.op.operands.toList ms=ts at *
 generalize hav:vals tm o.op.operands.toList ms=avs at *
 have hnew:∀cs,c1D P o avs=some cs→r=.ptr g.H.length 0→g'={g with H:=g.H++[cs]}→
   ∃n v' w' ν HV',(execOp (b1f vs) o).run P w=.ok n w'∧p1t n v'∧g'.defers=g.defers∧g'.rm=g.rm∧
   Stp I μ HV lv w vs tm lh g.H I ν HV' lv w' (putV vs o.dst v') (putT ts o.dst r) lh g'.H:=by
  intro cs hcs hr' hg'
  subst hr' hg'
  obtain⟨e,cc,w',e1,e2,e3,e4⟩:=h1K hcs hv rfl
  obtain⟨k1,k2⟩:=k1L hcs cc.toList
  obtain⟨p1,p2,p3⟩:=e2.none h.h.imm (fun _=>False)
  have h2:=hd.newHeap p1 p2 rfl (ws:=cc.toList) (cs:=cs) ⟨⟨e,by simpa using e2.new⟩,e3,e4,k2 I w',p3⟩ k1
  have h3:=h2.put o.dst (v:=.pointer (some ⟨w.heap.size,0,none⟩)) (r:=.ptr g.H.length 0) (.of (.ptr _ _ _ (by rw[←h.h.l1];simp) .nil)) (fun _ _ _ _ _ _ _ h=>by cases h) (fun b=>by have:=h2.one b;unfold Eng.tok;simp only[tc];omega)
  refine⟨_,_,w',_,_,e1,.inl rfl,rfl,rfl,h3,p1.mono fun _ h=>h.elim,fun b hb=>?_,LeN.append _ _⟩
  have t1:=c1R (μ:=μ++[w.heap.size]) (HV:=HV++[cc.toList]) (H:=g.H++[cs]) (lv:=lv) (lh:=lh) h2.tms.1 o.dst (.pointer (some ⟨w.heap.size,0,none⟩)) (.ptr g.H.length 0) b
  have t3:=htd b
  have t4:=c1T (tcs b) (l:=HV) (l':=[cc.toList]) (m:=g.H) (m':=[cs]) h.h.l2
  simp only[zsum,k1] at t4
  by_cases hh:w.heap.size=b
  ·right;omega
  ·left
   have:Eng.tok (μ++[w.heap.size]) (HV++[cc.toList]) (g.H++[cs]) lv lh vs ts b=Eng.tok μ HV g.H lv lh vs ts b:=by
    unfold Eng.tok;rw[List.count_append];simp only[tcss];rw[t4];simp [hh]
   simp only[tc] at t1 hb;omega
 rcases hop with ⟨e,hop⟩|⟨e,x,hop⟩|⟨t,x,hop⟩|⟨t,x,y,hop⟩
 ·simp only[f1T,hop] at hr
  split at hr
  ·rename_i cs hcs
   simp only[Option.some.injEq,GR.val.injEq] at hr
   exact hnew cs hcs hr.1.symm hr.2.symm
  ·cases hr
 ·simp only[f1T,hop] at hr
  split at hr
  ·rename_i cs hcs
   simp only[Option.some.injEq,GR.val.injEq] at hr
   exact hnew cs hcs hr.1.symm hr.2.symm
  ·cases hr
 ·unfold f1T at hr
  simp only[hop] at hr
  split at hr
  all_goals (try (rename_i e;cases e;done))
  ·rename_i t' x' id off e
   cases e
   split at hr
   ·rename_i cs hcs
    simp only[hop,Op.operands] at hv hs
    obtain⟨b,ws,q1,q2,q3⟩:=hd.h.get hcs
    have hptr:b1f vs x=.pointer (some ⟨b,off,none⟩):=by
     have:=hv.uncons.1
     generalize b1f vs x=u at this
     cases this with
     |ptr _ _ b2 hb2 _=>rw[q1] at hb2;cases hb2;rfl
    obtain⟨⟨e,k1⟩,k2,k3,k4,k5⟩:=q3
    have hcells:CellsAt w b 0 ws:=CellsAt.block k1
    split at hr
    ·split at hr
     ·rename_i u hagg hu
      simp only[Option.some.injEq,GR.val.injEq] at hr;obtain⟨rfl,rfl⟩:=hr
      obtain⟨wv,hwv,hwr⟩:=k2.get' hu
      have hrun:(execOp (b1f vs) o).run P w=.ok (.value wv) w:=by
       have:=hcells off wv hwv
       simp only[Nat.zero_add] at this
       simp [execOp,hop,hptr,Instr.loadAt,Instr.sureAddr,loadVar,i1x hagg,this]
      have hsz':∀g0,tcs g0 ws (cs.set off u.dis)+tc g0 wv u=tcs g0 ws cs:=fun g0=>by
       have:=e1U (tc g0) k2.length (a':=wv) (b':=u.dis) hwv hu
       rw[g1j hwv,r1e] at this
       simpa using this
      have hok:BlockOk I μ w b ws (cs.set off u.dis):=by
       refine⟨⟨e,k1⟩,?_,k3,?_,k5⟩
       ·have:=k2.set off hwr.dis;rwa [g1j hwv] at this
       ·have:=AllSpare.set k2.length k4 off (SpareOk.dis I w wv u);rwa [g1j hwv] at this
      have h2:=hd.setHeap (A:=fun _=>False) (ws':=ws) (cs':=cs.set off u.dis) q1 q2 hcs (.refl _ _ _) h.h.imm (fun _ h=>h.elim) hok (fun g0=>by
       have:=hd.one g0;have:=hsz' g0;unfold Eng.tok;omega)
      have t2':=fun b=>p1u (μ:=μ) (lv:=lv) (lh:=lh) (vs:=vs) (tm:=ts) h.h.l2 (ws':=ws) (cs':=cs.set off u.dis) q2 hcs b
      have h3:=h2.put o.dst (v:=wv) (r:=u) (.of hwr) (k4 off wv u hwv hu) (fun b=>by
       have t2:=t2' b
       have:=hd.one b;have:=hsz' b
       unfold Eng.tok at *;omega)
      refine⟨_,wv,w,μ,_,hrun,.inl rfl,rfl,rfl,h3,.refl _ _ _,fun b hb=>?_,.refl μ⟩
      left
      have t1:=c1R (μ:=μ) (HV:=HV.set id ws) (H:=g.H.set id (cs.set off u.dis)) (lv:=lv) (lh:=lh) h2.tms.1 o.dst wv u b
      have t2:=t2' b
      have t3:=htd b
      have:=hsz' b
      simp only at hb;omega
     ·cases hr
    ·simp only[Option.map_eq_some_iff] at hr
     obtain⟨u,hu,hr⟩:=hr
     simp only[GR.val.injEq] at hr;obtain⟨rfl,rfl⟩:=hr
     obtain⟨wv,r1,r2,r3⟩:=f1x (P:=P) hcells k3 k2 hu
     simp only[Nat.zero_add] at r1
     have hrun:(execOp (b1f vs) o).run P w=.ok (.value wv) w:=by
      simp [execOp,hop,hptr,Instr.loadAt,Instr.sureAddr,r1]
     have h3:=hd.put o.dst (v:=wv) (r:=u) (.of r2) (r3.spare w wv) (fun b=>by rw[r3.tc];have:=hd.one b;unfold Eng.tok;omega)
     refine⟨_,wv,w,μ,HV,hrun,.inl rfl,rfl,rfl,h3,.refl _ _ _,fun b hb=>?_,.refl μ⟩
     left
     have t1:=c1R (μ:=μ) (HV:=HV) (H:=g.H) (lv:=lv) (lh:=lh) hd.tms.1 o.dst wv u b
     have t3:=htd b
     rw[r3.tc] at t1;omega
   ·cases hr
  ·cases hr
 ·unfold f1T at hr
  simp only[hop] at hr
  split at hr
  all_goals (try (rename_i e;cases e;done))
  ·rename_i t' x' y' id off a e
   cases e
   split at hr
   ·rename_i cs new n hcs hnew' hsz
    split at hr
    ·rename_i hb
     obtain⟨hl,hle⟩:=hb
     simp only[Option.some.injEq,GR.val.injEq] at hr;obtain⟨rfl,rfl⟩:=hr
     have hv':=hv
     simp only[hop,Op.operands] at hv hs
     obtain⟨b,ws,q1,q2,q3⟩:=hd.h.get hcs
     have hptr:b1f vs x=.pointer (some ⟨b,off,none⟩):=by
      have:=hv.uncons.1
      generalize b1f vs x=u at this
      cases this with
      |ptr _ _ b2 hb2 _=>rw[q1] at hb2;cases hb2;rfl
     have hva:Rep I μ (b1f vs y) a:=hv.uncons.2.uncons.1.repOf (by rintro _ _ _ rfl;simp [AV.scells,AV.cells] at hnew')
     have hsa:SpareOk I w (b1f vs y) a:=hs 1 _ _ rfl rfl
     have hcb:0<μ.count b:=List.count_pos_iff.2 (List.mem_of_getElem? q1)
     have htd':∀b,Eng.tok μ HV g.H lv lh vs ts b+tc b (b1f vs y) a=Eng.tok μ HV g.H lv lh vs tm b:=fun b=>by
      have:=htd b
      simp only[hop,Op.operands,List.map_cons,List.map_nil,zsum] at this
      have e:tc b (b1f vs x) (.ptr id off)=0:=by unfold tc;split<;>simp_all
      omega
     have htm:∀b,Eng.tok μ HV g.H lv lh vs tm b≤1:=fun b=>h.one b
     have hz1:=htd' b
     have hz2:=htm b
     have hget:=g1H (tcs b) q2 hcs
     have htb:μ.count b+tcss b HV g.H≤Eng.tok μ HV g.H lv lh vs ts b:=by unfold Eng.tok;omega
     have hb0:tcs b ws cs=0:=by simp only[tcss,tcs] at *;omega
     obtain⟨w',ws',s1,s2,s3,s4,s5⟩:=u1y (P:=P) h.h.imm q3 hva hsa hnew' hsz hl hle (by omega) hb0
     have hrun:(execOp (b1f vs) o).run P w=.ok .skip w':=by
      simp [execOp,hop,hptr,s1]
     have h2:=hd.setHeap (A:=fun g=>g=b) (ws':=ws') (cs':=b1M cs off new) q1 q2 hcs s2 s3 (fun g hg=>hg) s4
      (fun g0=>by have:=htd' g0;have:=htm g0;have:=s5 g0;omega)
     have h3:=h2.put o.dst (v:=undef) (r:=.val undef) (.of (.val _ .nil)) (fun _ _ _ _ _ _ _ h=>by cases h) (fun b=>by have:=h2.one b;unfold Eng.tok;simp only[tc,undef];omega)
     refine⟨_,undef,w',μ,_,hrun,.inr ⟨rfl,rfl⟩,rfl,rfl,h3,s2.mono fun g0 hg0=>by subst hg0;omega,fun b hb=>?_,.refl μ⟩
     left
     have t1:=c1R (μ:=μ) (HV:=HV.set id ws') (H:=g.H.set id (b1M cs off new)) (lv:=lv) (lh:=lh) h2.tms.1 o.dst undef (.val undef) b
     have t2:=p1u (μ:=μ) (lv:=lv) (lh:=lh) (vs:=vs) (tm:=ts) h.h.l2 (ws':=ws') (cs':=b1M cs off new) q2 hcs b
     have t3:=htd' b
     have:=s5 b
     have t4:tc b undef (.val undef)=0:=rfl
     simp only at hb;omega
    ·cases hr
   ·cases hr
  ·cases hr
end
end Go.Eng
end
