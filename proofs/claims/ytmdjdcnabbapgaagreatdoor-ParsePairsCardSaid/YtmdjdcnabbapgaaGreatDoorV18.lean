/- Texts of this proof folded into one: T4c T2. -/
import Derived.Test.YtmdjdcnabbapgaaGreatDoorV17
import Derived.Test.YtmdjdcnabbapgaaGreatDoorV16
section
/- the checks of nodes: each ends well or with an error -/
open Go Go.Eng
namespace Go.Proofs.Ck
set_option linter.unusedVariables false
set_option linter.unusedSimpArgs false
set_option maxRecDepth 100000
section
variable {QD:List (St→Prop)} {QR:CRes→Prop}
theorem b1h {k:Int} {K:Int→Int→Int→KT} (h:∀a b c,(K a b c).wp Pg cfg0 evp QD QR):
  (KT.exI fun a=>.exI fun b=>.exI fun c=>.call f1m [vI k] .none [] ⟨.ret (.tuple [vI a,vI b,vI c]),.none,[]⟩ (K a b c)).wp Pg cfg0 evp QD QR:=by
 obtain⟨a,b,c,h1⟩:=i2a k
 exact⟨a,b,c,h1,h a b c⟩
end
theorem i2e {l:List (List AV)} (hl:l.length<c1j) (hf:∀r∈l,∃(k:Int) (n:ByteArray) (p:List (List AV)) (a:List (List AV)),r=[vI k,vS n,.slice 1 p .no,.slice 4 a .no]∧∃e',e'≠4∧evp a1G [.agg [vI k,vS n,.slice 1 p .no,.slice 4 a .no]] .none []=some ⟨oc e',.none,[]⟩):∃e,e≠4∧evp a1m [.slice 4 l .no,.func (.func a1G) [] []] .none []=some ⟨oc e,.none,[]⟩:=by
 unfold c1j at hl
 refine d1N ?_
 have key:(l1t l).wp Pg cfg0 evp [] (fun r=>∃e,e≠4∧r=⟨oc e,.none,[]⟩):=by
  refine m1p (fun i:Nat=>⟨tm2 16 [(1,(.func (.func a1G) [] [])),(6,(.slice 4 (l) .no)),(7,(vI ((↑l.length:Int)))),(8,(vI i))],lm2 16 [],⟨[],[],.none,0⟩⟩) (fun i=>i≤l.length) (fun i=>l.length-i) 0 (by kernel_rfl) (Nat.zero_le _) ?_
  intro i hi
  refine a1j (q1v l i) ?_
  refine a1d (fun h=>?_) (fun h=>?_)
  ·have h:=of_decide_eq_true h
   obtain⟨k,n,p,a,h1,hx⟩:=hf l[i] (List.getElem_mem (by omega))
   have h2:l[i]? =some [vI k,vS n,.slice 1 p .no,.slice 4 a .no]:=by rw[List.getElem?_eq_getElem (by omega),h1]
   rw[b1f (x:=i) (by omega)]
   refine⟨k,n,p,a,⟨Int.natCast_nonneg i,h2⟩,a1c hx ?_ (fun er he=>?_)⟩
   ·exact a1e ⟨i+1,⟨by omega,by omega⟩,rfl⟩
   ·exact a1h (a1u (a1A he))
  ·exact a1h (a1u b1A)
 have hk:kt2 a1m [.slice 4 l .no,.func (.func a1G) [] []] []=l1t l:=by kernel_rfl
 exact a1j hk key
theorem d2y {l:List (List AV)} (hl:l.length<c1j) (hf:∀r∈l,∃(k:Int) (n:ByteArray) (p:List (List AV)) (m:Int) (a:List (List AV)),r=[vI k,vS n,.slice 1 p .no,vI m,.slice 5 a .no]∧∃e',e'≠4∧evp b1q [.agg [vI k,vS n,.slice 1 p .no,vI m,.slice 5 a .no]] .none []=some ⟨oc e',.none,[]⟩):∃e,e≠4∧evp a1V [.slice 5 l .no,.func (.func b1q) [] []] .none []=some ⟨oc e,.none,[]⟩:=by
 unfold c1j at hl
 refine d1N ?_
 have key:(j1t l).wp Pg cfg0 evp [] (fun r=>∃e,e≠4∧r=⟨oc e,.none,[]⟩):=by
  refine m1p (fun i:Nat=>⟨tm2 16 [(1,(.func (.func b1q) [] [])),(6,(.slice 5 (l) .no)),(7,(vI ((↑l.length:Int)))),(8,(vI i))],lm2 16 [],⟨[],[],.none,0⟩⟩) (fun i=>i≤l.length) (fun i=>l.length-i) 0 (by kernel_rfl) (Nat.zero_le _) ?_
  intro i hi
  refine a1j (n1h l i) ?_
  refine a1d (fun h=>?_) (fun h=>?_)
  ·have h:=of_decide_eq_true h
   obtain⟨k,n,p,m,a,h1,hx⟩:=hf l[i] (List.getElem_mem (by omega))
   have h2:l[i]? =some [vI k,vS n,.slice 1 p .no,vI m,.slice 5 a .no]:=by rw[List.getElem?_eq_getElem (by omega),h1]
   rw[b1f (x:=i) (by omega)]
   refine⟨k,n,p,m,a,⟨Int.natCast_nonneg i,h2⟩,a1c hx ?_ (fun er he=>?_)⟩
   ·exact a1e ⟨i+1,⟨by omega,by omega⟩,rfl⟩
   ·exact a1h (a1u (a1A he))
  ·exact a1h (a1u b1A)
 have hk:kt2 a1V [.slice 5 l .no,.func (.func b1q) [] []] []=j1t l:=by kernel_rfl
 exact a1j hk key
theorem d2z {l:List (List AV)} (hl:l.length<c1j) (hf:∀r∈l,∃(k:Int) (o:Int) (m:Int) (p:List (List AV)) (a:List (List AV)) (b:List (List AV)) (c:List (List AV)) (d:List (List AV)),r=[vI k,vI o,vI m,.slice 1 p .no,.slice 5 a .no,.slice 8 b .no,.slice 9 c .no,.slice 4 d .no]∧∃e',e'≠4∧evp b1e [.agg [vI k,vI o,vI m,.slice 1 p .no,.slice 5 a .no,.slice 8 b .no,.slice 9 c .no,.slice 4 d .no]] .none []=some ⟨oc e',.none,[]⟩):∃e,e≠4∧evp a1P [.slice 8 l .no,.func (.func b1e) [] []] .none []=some ⟨oc e,.none,[]⟩:=by
 unfold c1j at hl
 refine d1N ?_
 have key:(j1u l).wp Pg cfg0 evp [] (fun r=>∃e,e≠4∧r=⟨oc e,.none,[]⟩):=by
  refine m1p (fun i:Nat=>⟨tm2 16 [(1,(.func (.func b1e) [] [])),(6,(.slice 8 (l) .no)),(7,(vI ((↑l.length:Int)))),(8,(vI i))],lm2 16 [],⟨[],[],.none,0⟩⟩) (fun i=>i≤l.length) (fun i=>l.length-i) 0 (by kernel_rfl) (Nat.zero_le _) ?_
  intro i hi
  refine a1j (n1i l i) ?_
  refine a1d (fun h=>?_) (fun h=>?_)
  ·have h:=of_decide_eq_true h
   obtain⟨k,o,m,p,a,b,c,d,h1,hx⟩:=hf l[i] (List.getElem_mem (by omega))
   have h2:l[i]? =some [vI k,vI o,vI m,.slice 1 p .no,.slice 5 a .no,.slice 8 b .no,.slice 9 c .no,.slice 4 d .no]:=by rw[List.getElem?_eq_getElem (by omega),h1]
   rw[b1f (x:=i) (by omega)]
   refine⟨k,o,m,p,a,b,c,d,⟨Int.natCast_nonneg i,h2⟩,a1c hx ?_ (fun er he=>?_)⟩
   ·exact a1e ⟨i+1,⟨by omega,by omega⟩,rfl⟩
   ·exact a1h (a1u (a1A he))
  ·exact a1h (a1u b1A)
 have hk:kt2 a1P [.slice 8 l .no,.func (.func b1e) [] []] []=j1u l:=by kernel_rfl
 exact a1j hk key
theorem d2A {l:List (List AV)} (hl:l.length<c1j) (hf:∀r∈l,∃(n:ByteArray) (a:List (List AV)),r=[vS n,.slice 4 a .no]∧∃e',e'≠4∧evp b1C [.agg [vS n,.slice 4 a .no]] .none []=some ⟨oc e',.none,[]⟩):∃e,e≠4∧evp a1Q [.slice 2 l .no,.func (.func b1C) [] []] .none []=some ⟨oc e,.none,[]⟩:=by
 unfold c1j at hl
 refine d1N ?_
 have key:(j1v l).wp Pg cfg0 evp [] (fun r=>∃e,e≠4∧r=⟨oc e,.none,[]⟩):=by
  refine m1p (fun i:Nat=>⟨tm2 16 [(1,(.func (.func b1C) [] [])),(6,(.slice 2 (l) .no)),(7,(vI ((↑l.length:Int)))),(8,(vI i))],lm2 16 [],⟨[],[],.none,0⟩⟩) (fun i=>i≤l.length) (fun i=>l.length-i) 0 (by kernel_rfl) (Nat.zero_le _) ?_
  intro i hi
  refine a1j (n1j l i) ?_
  refine a1d (fun h=>?_) (fun h=>?_)
  ·have h:=of_decide_eq_true h
   obtain⟨n,a,h1,hx⟩:=hf l[i] (List.getElem_mem (by omega))
   have h2:l[i]? =some [vS n,.slice 4 a .no]:=by rw[List.getElem?_eq_getElem (by omega),h1]
   rw[b1f (x:=i) (by omega)]
   refine⟨n,a,⟨Int.natCast_nonneg i,h2⟩,a1c hx ?_ (fun er he=>?_)⟩
   ·exact a1e ⟨i+1,⟨by omega,by omega⟩,rfl⟩
   ·exact a1h (a1u (a1A he))
  ·exact a1h (a1u b1A)
 have hk:kt2 a1Q [.slice 2 l .no,.func (.func b1C) [] []] []=j1v l:=by kernel_rfl
 exact a1j hk key
theorem d2B {l:List (List AV)} (hl:l.length<c1j) (hf:∀r∈l,∃(k:Int) (o:Int) (n:ByteArray) (p:List (List AV)) (a:List (List AV)) (b:List (List AV)) (c:List (List AV)) (d:List (List AV)) (e:List (List AV)),r=[vI k,vI o,vS n,.slice 1 p .no,.slice 4 a .no,.slice 8 b .no,.slice 2 c .no,.slice 5 d .no,.slice 5 e .no]∧∃e',e'≠4∧evp b1B [.agg [vI k,vI o,vS n,.slice 1 p .no,.slice 4 a .no,.slice 8 b .no,.slice 2 c .no,.slice 5 d .no,.slice 5 e .no]] .none []=some ⟨oc e',.none,[]⟩):∃e,e≠4∧evp a1y [.slice 9 l .no,.func (.func b1B) [] []] .none []=some ⟨oc e,.none,[]⟩:=by
 unfold c1j at hl
 refine d1N ?_
 have key:(j1w l).wp Pg cfg0 evp [] (fun r=>∃e,e≠4∧r=⟨oc e,.none,[]⟩):=by
  refine m1p (fun i:Nat=>⟨tm2 16 [(1,(.func (.func b1B) [] [])),(6,(.slice 9 (l) .no)),(7,(vI ((↑l.length:Int)))),(8,(vI i))],lm2 16 [],⟨[],[],.none,0⟩⟩) (fun i=>i≤l.length) (fun i=>l.length-i) 0 (by kernel_rfl) (Nat.zero_le _) ?_
  intro i hi
  refine a1j (n1k l i) ?_
  refine a1d (fun h=>?_) (fun h=>?_)
  ·have h:=of_decide_eq_true h
   obtain⟨k,o,n,p,a,b,c,d,e,h1,hx⟩:=hf l[i] (List.getElem_mem (by omega))
   have h2:l[i]? =some [vI k,vI o,vS n,.slice 1 p .no,.slice 4 a .no,.slice 8 b .no,.slice 2 c .no,.slice 5 d .no,.slice 5 e .no]:=by rw[List.getElem?_eq_getElem (by omega),h1]
   rw[b1f (x:=i) (by omega)]
   refine⟨k,o,n,p,a,b,c,d,e,⟨Int.natCast_nonneg i,h2⟩,a1c hx ?_ (fun er he=>?_)⟩
   ·exact a1e ⟨i+1,⟨by omega,by omega⟩,rfl⟩
   ·exact a1h (a1u (a1A he))
  ·exact a1h (a1u b1A)
 have hk:kt2 a1y [.slice 9 l .no,.func (.func b1B) [] []] []=j1w l:=by kernel_rfl
 exact a1j hk key
theorem w1R {l:List (List AV)} (hl:l.length<c1j) (hf:∀r∈l,∃(k:Int) (o:Int) (n:ByteArray) (p:List (List AV)) (a:List (List AV)) (b:List (List AV)) (c:List (List AV)) (d:List (List AV)) (e:List (List AV)),r=[vI k,vI o,vS n,.slice 1 p .no,.slice 4 a .no,.slice 8 b .no,.slice 2 c .no,.slice 5 d .no,.slice 5 e .no]∧∃e',e'≠4∧evp b1v [.agg [vI k,vI o,vS n,.slice 1 p .no,.slice 4 a .no,.slice 8 b .no,.slice 2 c .no,.slice 5 d .no,.slice 5 e .no]] .none []=some ⟨oc e',.none,[]⟩):∃e,e≠4∧evp a1y [.slice 9 l .no,.func (.func b1v) [] []] .none []=some ⟨oc e,.none,[]⟩:=by
 unfold c1j at hl
 refine d1N ?_
 have key:(h1w l).wp Pg cfg0 evp [] (fun r=>∃e,e≠4∧r=⟨oc e,.none,[]⟩):=by
  refine m1p (fun i:Nat=>⟨tm2 16 [(1,(.func (.func b1v) [] [])),(6,(.slice 9 (l) .no)),(7,(vI ((↑l.length:Int)))),(8,(vI i))],lm2 16 [],⟨[],[],.none,0⟩⟩) (fun i=>i≤l.length) (fun i=>l.length-i) 0 (by kernel_rfl) (Nat.zero_le _) ?_
  intro i hi
  refine a1j (l1u l i) ?_
  refine a1d (fun h=>?_) (fun h=>?_)
  ·have h:=of_decide_eq_true h
   obtain⟨k,o,n,p,a,b,c,d,e,h1,hx⟩:=hf l[i] (List.getElem_mem (by omega))
   have h2:l[i]? =some [vI k,vI o,vS n,.slice 1 p .no,.slice 4 a .no,.slice 8 b .no,.slice 2 c .no,.slice 5 d .no,.slice 5 e .no]:=by rw[List.getElem?_eq_getElem (by omega),h1]
   rw[b1f (x:=i) (by omega)]
   refine⟨k,o,n,p,a,b,c,d,e,⟨Int.natCast_nonneg i,h2⟩,a1c hx ?_ (fun er he=>?_)⟩
   ·exact a1e ⟨i+1,⟨by omega,by omega⟩,rfl⟩
   ·exact a1h (a1u (a1A he))
  ·exact a1h (a1u b1A)
 have hk:kt2 a1y [.slice 9 l .no,.func (.func b1v) [] []] []=h1w l:=by kernel_rfl
 exact a1j hk key
theorem d2C {l:List (List AV)} (hl:l.length<c1j) (hf:∀r∈l,∃(k:Int) (p:List (List AV)) (a:List (List AV)) (b:List (List AV)) (c:List (List AV)),r=[vI k,.slice 1 p .no,.slice 9 a .no,.slice 5 b .no,.slice 5 c .no]∧∃e',e'≠4∧evp b1w [.agg [vI k,.slice 1 p .no,.slice 9 a .no,.slice 5 b .no,.slice 5 c .no]] .none []=some ⟨oc e',.none,[]⟩):∃e,e≠4∧evp a1R [.slice 5 l .no,.func (.func b1w) [] []] .none []=some ⟨oc e,.none,[]⟩:=by
 unfold c1j at hl
 refine d1N ?_
 have key:(j1x l).wp Pg cfg0 evp [] (fun r=>∃e,e≠4∧r=⟨oc e,.none,[]⟩):=by
  refine m1p (fun i:Nat=>⟨tm2 16 [(1,(.func (.func b1w) [] [])),(6,(.slice 5 (l) .no)),(7,(vI ((↑l.length:Int)))),(8,(vI i))],lm2 16 [],⟨[],[],.none,0⟩⟩) (fun i=>i≤l.length) (fun i=>l.length-i) 0 (by kernel_rfl) (Nat.zero_le _) ?_
  intro i hi
  refine a1j (n1l l i) ?_
  refine a1d (fun h=>?_) (fun h=>?_)
  ·have h:=of_decide_eq_true h
   obtain⟨k,p,a,b,c,h1,hx⟩:=hf l[i] (List.getElem_mem (by omega))
   have h2:l[i]? =some [vI k,.slice 1 p .no,.slice 9 a .no,.slice 5 b .no,.slice 5 c .no]:=by rw[List.getElem?_eq_getElem (by omega),h1]
   rw[b1f (x:=i) (by omega)]
   refine⟨k,p,a,b,c,⟨Int.natCast_nonneg i,h2⟩,a1c hx ?_ (fun er he=>?_)⟩
   ·exact a1e ⟨i+1,⟨by omega,by omega⟩,rfl⟩
   ·exact a1h (a1u (a1A he))
  ·exact a1h (a1u b1A)
 have hk:kt2 a1R [.slice 5 l .no,.func (.func b1w) [] []] []=j1x l:=by kernel_rfl
 exact a1j hk key
theorem d2D {l:List (List AV)} (hl:l.length<c1j) (hf:∀r∈l,∃(k:Int) (p:List (List AV)) (a:List (List AV)) (b:List (List AV)) (c:List (List AV)),r=[vI k,.slice 1 p .no,.slice 6 a .no,.slice 5 b .no,.slice 4 c .no]∧∃e',e'≠4∧evp b1b [.agg [vI k,.slice 1 p .no,.slice 6 a .no,.slice 5 b .no,.slice 4 c .no]] .none []=some ⟨oc e',.none,[]⟩):∃e,e≠4∧evp a1w [.slice 5 l .no,.func (.func b1b) [] []] .none []=some ⟨oc e,.none,[]⟩:=by
 unfold c1j at hl
 refine d1N ?_
 have key:(j1y l).wp Pg cfg0 evp [] (fun r=>∃e,e≠4∧r=⟨oc e,.none,[]⟩):=by
  refine m1p (fun i:Nat=>⟨tm2 16 [(1,(.func (.func b1b) [] [])),(6,(.slice 5 (l) .no)),(7,(vI ((↑l.length:Int)))),(8,(vI i))],lm2 16 [],⟨[],[],.none,0⟩⟩) (fun i=>i≤l.length) (fun i=>l.length-i) 0 (by kernel_rfl) (Nat.zero_le _) ?_
  intro i hi
  refine a1j (n1m l i) ?_
  refine a1d (fun h=>?_) (fun h=>?_)
  ·have h:=of_decide_eq_true h
   obtain⟨k,p,a,b,c,h1,hx⟩:=hf l[i] (List.getElem_mem (by omega))
   have h2:l[i]? =some [vI k,.slice 1 p .no,.slice 6 a .no,.slice 5 b .no,.slice 4 c .no]:=by rw[List.getElem?_eq_getElem (by omega),h1]
   rw[b1f (x:=i) (by omega)]
   refine⟨k,p,a,b,c,⟨Int.natCast_nonneg i,h2⟩,a1c hx ?_ (fun er he=>?_)⟩
   ·exact a1e ⟨i+1,⟨by omega,by omega⟩,rfl⟩
   ·exact a1h (a1u (a1A he))
  ·exact a1h (a1u b1A)
 have hk:kt2 a1w [.slice 5 l .no,.func (.func b1b) [] []] []=j1y l:=by kernel_rfl
 exact a1j hk key
theorem w1S {l:List (List AV)} (hl:l.length<c1j) (hf:∀r∈l,∃(k:Int) (o:Int) (n:ByteArray) (a:List (List AV)) (b:List (List AV)) (c:List (List AV)),r=[vI k,vI o,vS n,.slice 4 a .no,.slice 2 b .no,.slice 5 c .no]∧∃e',e'≠4∧evp b1I [.agg [vI k,vI o,vS n,.slice 4 a .no,.slice 2 b .no,.slice 5 c .no]] .none []=some ⟨oc e',.none,[]⟩):∃e,e≠4∧evp a1L [.slice 6 l .no,.func (.func b1I) [] []] .none []=some ⟨oc e,.none,[]⟩:=by
 unfold c1j at hl
 refine d1N ?_
 have key:(h1x l).wp Pg cfg0 evp [] (fun r=>∃e,e≠4∧r=⟨oc e,.none,[]⟩):=by
  refine m1p (fun i:Nat=>⟨tm2 16 [(1,(.func (.func b1I) [] [])),(6,(.slice 6 (l) .no)),(7,(vI ((↑l.length:Int)))),(8,(vI i))],lm2 16 [],⟨[],[],.none,0⟩⟩) (fun i=>i≤l.length) (fun i=>l.length-i) 0 (by kernel_rfl) (Nat.zero_le _) ?_
  intro i hi
  refine a1j (l1v l i) ?_
  refine a1d (fun h=>?_) (fun h=>?_)
  ·have h:=of_decide_eq_true h
   obtain⟨k,o,n,a,b,c,h1,hx⟩:=hf l[i] (List.getElem_mem (by omega))
   have h2:l[i]? =some [vI k,vI o,vS n,.slice 4 a .no,.slice 2 b .no,.slice 5 c .no]:=by rw[List.getElem?_eq_getElem (by omega),h1]
   rw[b1f (x:=i) (by omega)]
   refine⟨k,o,n,a,b,c,⟨Int.natCast_nonneg i,h2⟩,a1c hx ?_ (fun er he=>?_)⟩
   ·exact a1e ⟨i+1,⟨by omega,by omega⟩,rfl⟩
   ·exact a1h (a1u (a1A he))
  ·exact a1h (a1u b1A)
 have hk:kt2 a1L [.slice 6 l .no,.func (.func b1I) [] []] []=h1x l:=by kernel_rfl
 exact a1j hk key
theorem o1d {l:List (List AV)} (hl:l.length<c1j) (hf:∀r∈l,∃(s:ByteArray),r=[vS s]∧∃e',e'≠4∧evp a1H [vS s] .none []=some ⟨oc e',.none,[]⟩):∃e,e≠4∧evp b1d [.slice 1 l .no,.func (.func a1H) [] []] .none []=some ⟨oc e,.none,[]⟩:=by
 unfold c1j at hl
 refine d1N ?_
 have key:(e1R l).wp Pg cfg0 evp [] (fun r=>∃e,e≠4∧r=⟨oc e,.none,[]⟩):=by
  refine m1p (fun i:Nat=>⟨tm2 16 [(1,(.func (.func a1H) [] [])),(6,(.slice 1 (l) .no)),(7,(vI ((↑l.length:Int)))),(8,(vI i))],lm2 16 [],⟨[],[],.none,0⟩⟩) (fun i=>i≤l.length) (fun i=>l.length-i) 0 (by kernel_rfl) (Nat.zero_le _) ?_
  intro i hi
  refine a1j (i1X l i) ?_
  refine a1d (fun h=>?_) (fun h=>?_)
  ·have h:=of_decide_eq_true h
   obtain⟨s,h1,hx⟩:=hf l[i] (List.getElem_mem (by omega))
   have h2:l[i]? =some [vS s]:=by rw[List.getElem?_eq_getElem (by omega),h1]
   rw[b1f (x:=i) (by omega)]
   refine⟨s,⟨Int.natCast_nonneg i,h2⟩,a1c hx ?_ (fun er he=>?_)⟩
   ·exact a1e ⟨i+1,⟨by omega,by omega⟩,rfl⟩
   ·exact a1h (a1u (a1A he))
  ·exact a1h (a1u b1A)
 have hk:kt2 b1d [.slice 1 l .no,.func (.func a1H) [] []] []=e1R l:=by kernel_rfl
 exact a1j hk key
theorem n1c {l:List (List AV)} (hl:l.length<c1j) (hf:∀r∈l,∃(s:ByteArray),r=[vS s]∧∃e',e'≠4∧evp a1B [vS s] .none []=some ⟨oc e',.none,[]⟩):∃e,e≠4∧evp b1d [.slice 1 l .no,.func (.func a1B) [] []] .none []=some ⟨oc e,.none,[]⟩:=by
 unfold c1j at hl
 refine d1N ?_
 have key:(e1B l).wp Pg cfg0 evp [] (fun r=>∃e,e≠4∧r=⟨oc e,.none,[]⟩):=by
  refine m1p (fun i:Nat=>⟨tm2 16 [(1,(.func (.func a1B) [] [])),(6,(.slice 1 (l) .no)),(7,(vI ((↑l.length:Int)))),(8,(vI i))],lm2 16 [],⟨[],[],.none,0⟩⟩) (fun i=>i≤l.length) (fun i=>l.length-i) 0 (by kernel_rfl) (Nat.zero_le _) ?_
  intro i hi
  refine a1j (i1t l i) ?_
  refine a1d (fun h=>?_) (fun h=>?_)
  ·have h:=of_decide_eq_true h
   obtain⟨s,h1,hx⟩:=hf l[i] (List.getElem_mem (by omega))
   have h2:l[i]? =some [vS s]:=by rw[List.getElem?_eq_getElem (by omega),h1]
   rw[b1f (x:=i) (by omega)]
   refine⟨s,⟨Int.natCast_nonneg i,h2⟩,a1c hx ?_ (fun er he=>?_)⟩
   ·exact a1e ⟨i+1,⟨by omega,by omega⟩,rfl⟩
   ·exact a1h (a1u (a1A he))
  ·exact a1h (a1u b1A)
 have hk:kt2 b1d [.slice 1 l .no,.func (.func a1B) [] []] []=e1B l:=by kernel_rfl
 exact a1j hk key
theorem a1Z {p:List (List AV)} (hp:Strs p) (hl:p.length<c1j):∃e,e≠4∧evp b1d [.slice 1 p .no,.func (.func a1H) [] []] .none []=some ⟨oc e,.none,[]⟩:=
 o1d hl fun r hr=>by obtain⟨s,h1,h2⟩:=hp r hr;exact⟨s,h1,c1c h2⟩
theorem a1K {p:List (List AV)} (hp:Strs p) (hl:p.length<c1j):∃e,e≠4∧evp b1d [.slice 1 p .no,.func (.func a1B) [] []] .none []=some ⟨oc e,.none,[]⟩:=
 n1c hl fun r hr=>by obtain⟨s,h1,h2⟩:=hp r hr;exact⟨s,h1,b1K h2⟩
theorem a_Ty {k:Int} {n:ByteArray} {p:List (List AV)} {a:List (List AV)} (hn:n.size<c1j) (hp:Strs p) (lp:p.length<c1j) (ea_ty:∃er,er≠4∧evp a1m [.slice 4 a .no,.func (.func a1G) [] []] .none []=some ⟨oc er,.none,[]⟩):∃er,er≠4∧evp a1G [.agg [vI k,vS n,.slice 1 p .no,.slice 4 a .no]] .none []=some ⟨oc er,.none,[]⟩:=by
 have w4:((d2V k n p a).K ⟨tm2 69 [(1,(.ref [(vI (k)),(vS (n)),(.slice 1 (p) .no),(.slice 4 (a) .no)]))],lm2 69 [],⟨[],[],.none,0⟩⟩).wp Pg cfg0 evp [] (fun r=>∃er,er≠4∧r=⟨oc er,.none,[]⟩):=a1j (d2X k n p a) (by
  repeat' first
   |exact b1A
   |exact a1A (by decide)
   |exact a1A (by assumption)
   |refine a1u ?_
   |refine a1h ?_
   |refine a1s ?_
   |refine a1c (d1j _) ?_ (fun er he=>?_)
   |refine a1c (b1G _ _ _) ?_ (fun er he=>?_)
   |refine b1h (fun i0 j0 k0=>?_)
   |refine a1c (c1c hn) ?_ (fun er he=>?_)
   |refine a1c (b1K hn) ?_ (fun er he=>?_)
   |refine a1n (d1s hn) (fun b=>?_)
   |refine a1c (a1Y hp) ?_ (fun er he=>?_)
   |refine a1c (a1J hp) ?_ (fun er he=>?_)
   |refine a1n (b1L hp) (fun b=>?_)
   |refine a1c (a1Z hp lp) ?_ (fun er he=>?_)
   |refine a1c (a1K hp lp) ?_ (fun er he=>?_)
   |refine a1c ea_ty ?_ (fun er he=>?_)
   |refine a1d (fun h=>?_) (fun h=>?_))
 have w3:((y1r k n p a).K ⟨tm2 69 [(1,(.ref [(vI (k)),(vS (n)),(.slice 1 (p) .no),(.slice 4 (a) .no)]))],lm2 69 [],⟨[],[],.none,0⟩⟩).wp Pg cfg0 evp [] (fun r=>∃er,er≠4∧r=⟨oc er,.none,[]⟩):=a1j (d2W k n p a) (by
  repeat' first
   |exact b1A
   |exact a1A (by decide)
   |exact a1A (by assumption)
   |exact a1e (w4)
   |refine a1u ?_
   |refine a1h ?_
   |refine a1s ?_
   |refine a1c (d1j _) ?_ (fun er he=>?_)
   |refine a1c (b1G _ _ _) ?_ (fun er he=>?_)
   |refine b1h (fun i0 j0 k0=>?_)
   |refine a1c (c1c hn) ?_ (fun er he=>?_)
   |refine a1c (b1K hn) ?_ (fun er he=>?_)
   |refine a1n (d1s hn) (fun b=>?_)
   |refine a1c (a1Y hp) ?_ (fun er he=>?_)
   |refine a1c (a1J hp) ?_ (fun er he=>?_)
   |refine a1n (b1L hp) (fun b=>?_)
   |refine a1c (a1Z hp lp) ?_ (fun er he=>?_)
   |refine a1c (a1K hp lp) ?_ (fun er he=>?_)
   |refine a1c ea_ty ?_ (fun er he=>?_)
   |refine a1d (fun h=>?_) (fun h=>?_))
 have w2:((y1q k n p a).K ⟨tm2 69 [(1,(.ref [(vI (k)),(vS (n)),(.slice 1 (p) .no),(.slice 4 (a) .no)]))],lm2 69 [],⟨[],[],.none,0⟩⟩).wp Pg cfg0 evp [] (fun r=>∃er,er≠4∧r=⟨oc er,.none,[]⟩):=a1j (d2U k n p a) (by
  repeat' first
   |exact b1A
   |exact a1A (by decide)
   |exact a1A (by assumption)
   |exact a1e (w4)
   |exact a1e (w3)
   |refine a1u ?_
   |refine a1h ?_
   |refine a1s ?_
   |refine a1c (d1j _) ?_ (fun er he=>?_)
   |refine a1c (b1G _ _ _) ?_ (fun er he=>?_)
   |refine b1h (fun i0 j0 k0=>?_)
   |refine a1c (c1c hn) ?_ (fun er he=>?_)
   |refine a1c (b1K hn) ?_ (fun er he=>?_)
   |refine a1n (d1s hn) (fun b=>?_)
   |refine a1c (a1Y hp) ?_ (fun er he=>?_)
   |refine a1c (a1J hp) ?_ (fun er he=>?_)
   |refine a1n (b1L hp) (fun b=>?_)
   |refine a1c (a1Z hp lp) ?_ (fun er he=>?_)
   |refine a1c (a1K hp lp) ?_ (fun er he=>?_)
   |refine a1c ea_ty ?_ (fun er he=>?_)
   |refine a1d (fun h=>?_) (fun h=>?_))
 have w1:((X_Ty k n p a).K ⟨tm2 69 [(1,(.ref [(vI (k)),(vS (n)),(.slice 1 (p) .no),(.slice 4 (a) .no)]))],lm2 69 [],⟨[],[],.none,0⟩⟩).wp Pg cfg0 evp [] (fun r=>∃er,er≠4∧r=⟨oc er,.none,[]⟩):=a1j (d2T k n p a) (by
  repeat' first
   |exact b1A
   |exact a1A (by decide)
   |exact a1A (by assumption)
   |exact a1e (w4)
   |exact a1e (w3)
   |exact a1e (w2)
   |refine a1u ?_
   |refine a1h ?_
   |refine a1s ?_
   |refine a1c (d1j _) ?_ (fun er he=>?_)
   |refine a1c (b1G _ _ _) ?_ (fun er he=>?_)
   |refine b1h (fun i0 j0 k0=>?_)
   |refine a1c (c1c hn) ?_ (fun er he=>?_)
   |refine a1c (b1K hn) ?_ (fun er he=>?_)
   |refine a1n (d1s hn) (fun b=>?_)
   |refine a1c (a1Y hp) ?_ (fun er he=>?_)
   |refine a1c (a1J hp) ?_ (fun er he=>?_)
   |refine a1n (b1L hp) (fun b=>?_)
   |refine a1c (a1Z hp lp) ?_ (fun er he=>?_)
   |refine a1c (a1K hp lp) ?_ (fun er he=>?_)
   |refine a1c ea_ty ?_ (fun er he=>?_)
   |refine a1d (fun h=>?_) (fun h=>?_))
 exact d1N (a1j (X_Ty_eq k n p a) (by
  repeat' first
   |exact b1A
   |exact a1A (by decide)
   |exact a1A (by assumption)
   |exact a1e (w4)
   |exact a1e (w3)
   |exact a1e (w2)
   |exact a1e (w1)
   |refine a1u ?_
   |refine a1h ?_
   |refine a1s ?_
   |refine a1c (d1j _) ?_ (fun er he=>?_)
   |refine a1c (b1G _ _ _) ?_ (fun er he=>?_)
   |refine b1h (fun i0 j0 k0=>?_)
   |refine a1c (c1c hn) ?_ (fun er he=>?_)
   |refine a1c (b1K hn) ?_ (fun er he=>?_)
   |refine a1n (d1s hn) (fun b=>?_)
   |refine a1c (a1Y hp) ?_ (fun er he=>?_)
   |refine a1c (a1J hp) ?_ (fun er he=>?_)
   |refine a1n (b1L hp) (fun b=>?_)
   |refine a1c (a1Z hp lp) ?_ (fun er he=>?_)
   |refine a1c (a1K hp lp) ?_ (fun er he=>?_)
   |refine a1c ea_ty ?_ (fun er he=>?_)
   |refine a1d (fun h=>?_) (fun h=>?_)))
theorem a_Pat {k:Int} {n:ByteArray} {p:List (List AV)} {m:Int} {a:List (List AV)} (hn:n.size<c1j) (hp:Strs p) (lp:p.length<c1j) (ea_pat:∃er,er≠4∧evp a1V [.slice 5 a .no,.func (.func b1q) [] []] .none []=some ⟨oc er,.none,[]⟩):∃er,er≠4∧evp b1q [.agg [vI k,vS n,.slice 1 p .no,vI m,.slice 5 a .no]] .none []=some ⟨oc er,.none,[]⟩:=by
 have w4:((x1b k n p m a).K ⟨tm2 82 [(1,(.ref [(vI (k)),(vS (n)),(.slice 1 (p) .no),(vI (m)),(.slice 5 (a) .no)]))],lm2 82 [],⟨[],[],.none,0⟩⟩).wp Pg cfg0 evp [] (fun r=>∃er,er≠4∧r=⟨oc er,.none,[]⟩):=a1j (a2t k n p m a) (by
  repeat' first
   |exact b1A
   |exact a1A (by decide)
   |exact a1A (by assumption)
   |refine a1u ?_
   |refine a1h ?_
   |refine a1s ?_
   |refine a1c (d1j _) ?_ (fun er he=>?_)
   |refine a1c (b1G _ _ _) ?_ (fun er he=>?_)
   |refine b1h (fun i0 j0 k0=>?_)
   |refine a1c (c1c hn) ?_ (fun er he=>?_)
   |refine a1c (b1K hn) ?_ (fun er he=>?_)
   |refine a1n (d1s hn) (fun b=>?_)
   |refine a1c (a1Y hp) ?_ (fun er he=>?_)
   |refine a1c (a1J hp) ?_ (fun er he=>?_)
   |refine a1n (b1L hp) (fun b=>?_)
   |refine a1c (a1Z hp lp) ?_ (fun er he=>?_)
   |refine a1c (a1K hp lp) ?_ (fun er he=>?_)
   |refine a1c ea_pat ?_ (fun er he=>?_)
   |refine a1d (fun h=>?_) (fun h=>?_))
 have w3:((t1f k n p m a).K ⟨tm2 82 [(1,(.ref [(vI (k)),(vS (n)),(.slice 1 (p) .no),(vI (m)),(.slice 5 (a) .no)]))],lm2 82 [],⟨[],[],.none,0⟩⟩).wp Pg cfg0 evp [] (fun r=>∃er,er≠4∧r=⟨oc er,.none,[]⟩):=a1j (a2s k n p m a) (by
  repeat' first
   |exact b1A
   |exact a1A (by decide)
   |exact a1A (by assumption)
   |exact a1e (w4)
   |refine a1u ?_
   |refine a1h ?_
   |refine a1s ?_
   |refine a1c (d1j _) ?_ (fun er he=>?_)
   |refine a1c (b1G _ _ _) ?_ (fun er he=>?_)
   |refine b1h (fun i0 j0 k0=>?_)
   |refine a1c (c1c hn) ?_ (fun er he=>?_)
   |refine a1c (b1K hn) ?_ (fun er he=>?_)
   |refine a1n (d1s hn) (fun b=>?_)
   |refine a1c (a1Y hp) ?_ (fun er he=>?_)
   |refine a1c (a1J hp) ?_ (fun er he=>?_)
   |refine a1n (b1L hp) (fun b=>?_)
   |refine a1c (a1Z hp lp) ?_ (fun er he=>?_)
   |refine a1c (a1K hp lp) ?_ (fun er he=>?_)
   |refine a1c ea_pat ?_ (fun er he=>?_)
   |refine a1d (fun h=>?_) (fun h=>?_))
 have w2:((t1e k n p m a).K ⟨tm2 82 [(1,(.ref [(vI (k)),(vS (n)),(.slice 1 (p) .no),(vI (m)),(.slice 5 (a) .no)]))],lm2 82 [],⟨[],[],.none,0⟩⟩).wp Pg cfg0 evp [] (fun r=>∃er,er≠4∧r=⟨oc er,.none,[]⟩):=a1j (a2r k n p m a) (by
  repeat' first
   |exact b1A
   |exact a1A (by decide)
   |exact a1A (by assumption)
   |exact a1e (w4)
   |exact a1e (w3)
   |refine a1u ?_
   |refine a1h ?_
   |refine a1s ?_
   |refine a1c (d1j _) ?_ (fun er he=>?_)
   |refine a1c (b1G _ _ _) ?_ (fun er he=>?_)
   |refine b1h (fun i0 j0 k0=>?_)
   |refine a1c (c1c hn) ?_ (fun er he=>?_)
   |refine a1c (b1K hn) ?_ (fun er he=>?_)
   |refine a1n (d1s hn) (fun b=>?_)
   |refine a1c (a1Y hp) ?_ (fun er he=>?_)
   |refine a1c (a1J hp) ?_ (fun er he=>?_)
   |refine a1n (b1L hp) (fun b=>?_)
   |refine a1c (a1Z hp lp) ?_ (fun er he=>?_)
   |refine a1c (a1K hp lp) ?_ (fun er he=>?_)
   |refine a1c ea_pat ?_ (fun er he=>?_)
   |refine a1d (fun h=>?_) (fun h=>?_))
 have w1:((f2S k n p m a).K ⟨tm2 82 [(1,(.ref [(vI (k)),(vS (n)),(.slice 1 (p) .no),(vI (m)),(.slice 5 (a) .no)]))],lm2 82 [],⟨[],[],.none,0⟩⟩).wp Pg cfg0 evp [] (fun r=>∃er,er≠4∧r=⟨oc er,.none,[]⟩):=a1j (a2q k n p m a) (by
  repeat' first
   |exact b1A
   |exact a1A (by decide)
   |exact a1A (by assumption)
   |exact a1e (w4)
   |exact a1e (w3)
   |exact a1e (w2)
   |refine a1u ?_
   |refine a1h ?_
   |refine a1s ?_
   |refine a1c (d1j _) ?_ (fun er he=>?_)
   |refine a1c (b1G _ _ _) ?_ (fun er he=>?_)
   |refine b1h (fun i0 j0 k0=>?_)
   |refine a1c (c1c hn) ?_ (fun er he=>?_)
   |refine a1c (b1K hn) ?_ (fun er he=>?_)
   |refine a1n (d1s hn) (fun b=>?_)
   |refine a1c (a1Y hp) ?_ (fun er he=>?_)
   |refine a1c (a1J hp) ?_ (fun er he=>?_)
   |refine a1n (b1L hp) (fun b=>?_)
   |refine a1c (a1Z hp lp) ?_ (fun er he=>?_)
   |refine a1c (a1K hp lp) ?_ (fun er he=>?_)
   |refine a1c ea_pat ?_ (fun er he=>?_)
   |refine a1d (fun h=>?_) (fun h=>?_))
 exact d1N (a1j (f2T k n p m a) (by
  repeat' first
   |exact b1A
   |exact a1A (by decide)
   |exact a1A (by assumption)
   |exact a1e (w4)
   |exact a1e (w3)
   |exact a1e (w2)
   |exact a1e (w1)
   |refine a1u ?_
   |refine a1h ?_
   |refine a1s ?_
   |refine a1c (d1j _) ?_ (fun er he=>?_)
   |refine a1c (b1G _ _ _) ?_ (fun er he=>?_)
   |refine b1h (fun i0 j0 k0=>?_)
   |refine a1c (c1c hn) ?_ (fun er he=>?_)
   |refine a1c (b1K hn) ?_ (fun er he=>?_)
   |refine a1n (d1s hn) (fun b=>?_)
   |refine a1c (a1Y hp) ?_ (fun er he=>?_)
   |refine a1c (a1J hp) ?_ (fun er he=>?_)
   |refine a1n (b1L hp) (fun b=>?_)
   |refine a1c (a1Z hp lp) ?_ (fun er he=>?_)
   |refine a1c (a1K hp lp) ?_ (fun er he=>?_)
   |refine a1c ea_pat ?_ (fun er he=>?_)
   |refine a1d (fun h=>?_) (fun h=>?_)))
theorem a_Exp {k:Int} {o:Int} {m:Int} {p:List (List AV)} {a:List (List AV)} {b:List (List AV)} {c:List (List AV)} {d:List (List AV)} (hp:Strs p) (lp:p.length<c1j) (ea_pat:∃er,er≠4∧evp a1V [.slice 5 a .no,.func (.func b1q) [] []] .none []=some ⟨oc er,.none,[]⟩) (eb_exp:∃er,er≠4∧evp a1P [.slice 8 b .no,.func (.func b1e) [] []] .none []=some ⟨oc er,.none,[]⟩) (ec_dec:∃er,er≠4∧evp a1y [.slice 9 c .no,.func (.func b1B) [] []] .none []=some ⟨oc er,.none,[]⟩) (ec_exp_1:∃er,er≠4∧evp a1y [.slice 9 c .no,.func (.func b1v) [] []] .none []=some ⟨oc er,.none,[]⟩) (ed_ty:∃er,er≠4∧evp a1m [.slice 4 d .no,.func (.func a1G) [] []] .none []=some ⟨oc er,.none,[]⟩):∃er,er≠4∧evp b1e [.agg [vI k,vI o,vI m,.slice 1 p .no,.slice 5 a .no,.slice 8 b .no,.slice 9 c .no,.slice 4 d .no]] .none []=some ⟨oc er,.none,[]⟩:=by
 have w9:∀(i:Int) (i1:Int) (i2:Int) (q5x0:Int) (q5x1:Int),((x1c k o m p a b c d i i1 i2 q5x0 q5x1).K ⟨tm2 131 [(1,(.ref [(vI (k)),(vI (o)),(vI (m)),(.slice 1 (p) .no),(.slice 5 (a) .no),(.slice 8 (b) .no),(.slice 9 (c) .no),(.slice 4 (d) .no)]))],lm2 131 [],⟨[],[],.none,0⟩⟩).wp Pg cfg0 evp [] (fun r=>∃er,er≠4∧r=⟨oc er,.none,[]⟩):=fun i i1 i2 q5x0 q5x1=>a1j (a2C k o m p a b c d i i1 i2 q5x0 q5x1) (by
  repeat' first
   |exact b1A
   |exact a1A (by decide)
   |exact a1A (by assumption)
   |refine a1u ?_
   |refine a1h ?_
   |refine a1s ?_
   |refine a1c (d1j _) ?_ (fun er he=>?_)
   |refine a1c (b1G _ _ _) ?_ (fun er he=>?_)
   |refine b1h (fun i0 j0 k0=>?_)
   |refine a1c (a1Y hp) ?_ (fun er he=>?_)
   |refine a1c (a1J hp) ?_ (fun er he=>?_)
   |refine a1n (b1L hp) (fun b=>?_)
   |refine a1c (a1Z hp lp) ?_ (fun er he=>?_)
   |refine a1c (a1K hp lp) ?_ (fun er he=>?_)
   |refine a1c ea_pat ?_ (fun er he=>?_)
   |refine a1c eb_exp ?_ (fun er he=>?_)
   |refine a1c ec_dec ?_ (fun er he=>?_)
   |refine a1c ec_exp_1 ?_ (fun er he=>?_)
   |refine a1c ed_ty ?_ (fun er he=>?_)
   |refine a1d (fun h=>?_) (fun h=>?_))
 have w8:∀(i:Int) (i1:Int) (i2:Int) (q5x0:Int) (q5x1:Int),((t1m k o m p a b c d i i1 i2 q5x0 q5x1).T.T.K ⟨tm2 131 [(1,(.ref [(vI (k)),(vI (o)),(vI (m)),(.slice 1 (p) .no),(.slice 5 (a) .no),(.slice 8 (b) .no),(.slice 9 (c) .no),(.slice 4 (d) .no)]))],lm2 131 [],⟨[],[],.none,0⟩⟩).wp Pg cfg0 evp [] (fun r=>∃er,er≠4∧r=⟨oc er,.none,[]⟩):=fun i i1 i2 q5x0 q5x1=>a1j (a2B k o m p a b c d i i1 i2 q5x0 q5x1) (by
  repeat' first
   |exact b1A
   |exact a1A (by decide)
   |exact a1A (by assumption)
   |exact a1e (w9 _ _ _ _ _)
   |refine a1u ?_
   |refine a1h ?_
   |refine a1s ?_
   |refine a1c (d1j _) ?_ (fun er he=>?_)
   |refine a1c (b1G _ _ _) ?_ (fun er he=>?_)
   |refine b1h (fun i0 j0 k0=>?_)
   |refine a1c (a1Y hp) ?_ (fun er he=>?_)
   |refine a1c (a1J hp) ?_ (fun er he=>?_)
   |refine a1n (b1L hp) (fun b=>?_)
   |refine a1c (a1Z hp lp) ?_ (fun er he=>?_)
   |refine a1c (a1K hp lp) ?_ (fun er he=>?_)
   |refine a1c ea_pat ?_ (fun er he=>?_)
   |refine a1c eb_exp ?_ (fun er he=>?_)
   |refine a1c ec_dec ?_ (fun er he=>?_)
   |refine a1c ec_exp_1 ?_ (fun er he=>?_)
   |refine a1c ed_ty ?_ (fun er he=>?_)
   |refine a1d (fun h=>?_) (fun h=>?_))
 have w7:∀(i:Int) (i1:Int) (i2:Int) (q5x0:Int) (q5x1:Int),((t1l k o m p a b c d i i1 i2 q5x0 q5x1).K ⟨tm2 131 [(1,(.ref [(vI (k)),(vI (o)),(vI (m)),(.slice 1 (p) .no),(.slice 5 (a) .no),(.slice 8 (b) .no),(.slice 9 (c) .no),(.slice 4 (d) .no)]))],lm2 131 [],⟨[],[],.none,0⟩⟩).wp Pg cfg0 evp [] (fun r=>∃er,er≠4∧r=⟨oc er,.none,[]⟩):=fun i i1 i2 q5x0 q5x1=>a1j (a2A k o m p a b c d i i1 i2 q5x0 q5x1) (by
  repeat' first
   |exact b1A
   |exact a1A (by decide)
   |exact a1A (by assumption)
   |exact a1e (w9 _ _ _ _ _)
   |exact a1e (w8 _ _ _ _ _)
   |refine a1u ?_
   |refine a1h ?_
   |refine a1s ?_
   |refine a1c (d1j _) ?_ (fun er he=>?_)
   |refine a1c (b1G _ _ _) ?_ (fun er he=>?_)
   |refine b1h (fun i0 j0 k0=>?_)
   |refine a1c (a1Y hp) ?_ (fun er he=>?_)
   |refine a1c (a1J hp) ?_ (fun er he=>?_)
   |refine a1n (b1L hp) (fun b=>?_)
   |refine a1c (a1Z hp lp) ?_ (fun er he=>?_)
   |refine a1c (a1K hp lp) ?_ (fun er he=>?_)
   |refine a1c ea_pat ?_ (fun er he=>?_)
   |refine a1c eb_exp ?_ (fun er he=>?_)
   |refine a1c ec_dec ?_ (fun er he=>?_)
   |refine a1c ec_exp_1 ?_ (fun er he=>?_)
   |refine a1c ed_ty ?_ (fun er he=>?_)
   |refine a1d (fun h=>?_) (fun h=>?_))
 have w6:∀(i:Int) (i1:Int) (i2:Int) (q5x0:Int) (q5x1:Int),((t1k k o m p a b c d i i1 i2 q5x0 q5x1).K ⟨tm2 131 [(1,(.ref [(vI (k)),(vI (o)),(vI (m)),(.slice 1 (p) .no),(.slice 5 (a) .no),(.slice 8 (b) .no),(.slice 9 (c) .no),(.slice 4 (d) .no)]))],lm2 131 [],⟨[],[],.none,0⟩⟩).wp Pg cfg0 evp [] (fun r=>∃er,er≠4∧r=⟨oc er,.none,[]⟩):=fun i i1 i2 q5x0 q5x1=>a1j (a2z k o m p a b c d i i1 i2 q5x0 q5x1) (by
  repeat' first
   |exact b1A
   |exact a1A (by decide)
   |exact a1A (by assumption)
   |exact a1e (w9 _ _ _ _ _)
   |exact a1e (w8 _ _ _ _ _)
   |exact a1e (w7 _ _ _ _ _)
   |refine a1u ?_
   |refine a1h ?_
   |refine a1s ?_
   |refine a1c (d1j _) ?_ (fun er he=>?_)
   |refine a1c (b1G _ _ _) ?_ (fun er he=>?_)
   |refine b1h (fun i0 j0 k0=>?_)
   |refine a1c (a1Y hp) ?_ (fun er he=>?_)
   |refine a1c (a1J hp) ?_ (fun er he=>?_)
   |refine a1n (b1L hp) (fun b=>?_)
   |refine a1c (a1Z hp lp) ?_ (fun er he=>?_)
   |refine a1c (a1K hp lp) ?_ (fun er he=>?_)
   |refine a1c ea_pat ?_ (fun er he=>?_)
   |refine a1c eb_exp ?_ (fun er he=>?_)
   |refine a1c ec_dec ?_ (fun er he=>?_)
   |refine a1c ec_exp_1 ?_ (fun er he=>?_)
   |refine a1c ed_ty ?_ (fun er he=>?_)
   |refine a1d (fun h=>?_) (fun h=>?_))
 have w5:∀(i:Int) (i1:Int) (i2:Int) (q5x0:Int) (q5x1:Int),(((((t1j k o m p a b c d).I i).I i1).I i2).T.K ⟨tm2 131 [(1,(.ref [(vI (k)),(vI (o)),(vI (m)),(.slice 1 (p) .no),(.slice 5 (a) .no),(.slice 8 (b) .no),(.slice 9 (c) .no),(.slice 4 (d) .no)])),(2,(vI (q5x0))),(3,(vI (q5x1))),(4,(vI (i2)))],lm2 131 [],⟨[],[],.none,0⟩⟩).wp Pg cfg0 evp [] (fun r=>∃er,er≠4∧r=⟨oc er,.none,[]⟩):=fun i i1 i2 q5x0 q5x1=>a1j (a2y k o m p a b c d i i1 i2 q5x0 q5x1) (by
  repeat' first
   |exact b1A
   |exact a1A (by decide)
   |exact a1A (by assumption)
   |exact a1e (w9 _ _ _ _ _)
   |exact a1e (w8 _ _ _ _ _)
   |exact a1e (w7 _ _ _ _ _)
   |exact a1e (w6 _ _ _ _ _)
   |refine a1u ?_
   |refine a1h ?_
   |refine a1s ?_
   |refine a1c (d1j _) ?_ (fun er he=>?_)
   |refine a1c (b1G _ _ _) ?_ (fun er he=>?_)
   |refine b1h (fun i0 j0 k0=>?_)
   |refine a1c (a1Y hp) ?_ (fun er he=>?_)
   |refine a1c (a1J hp) ?_ (fun er he=>?_)
   |refine a1n (b1L hp) (fun b=>?_)
   |refine a1c (a1Z hp lp) ?_ (fun er he=>?_)
   |refine a1c (a1K hp lp) ?_ (fun er he=>?_)
   |refine a1c ea_pat ?_ (fun er he=>?_)
   |refine a1c eb_exp ?_ (fun er he=>?_)
   |refine a1c ec_dec ?_ (fun er he=>?_)
   |refine a1c ec_exp_1 ?_ (fun er he=>?_)
   |refine a1c ed_ty ?_ (fun er he=>?_)
   |refine a1d (fun h=>?_) (fun h=>?_))
 have w4:((t1i k o m p a b c d).K ⟨tm2 131 [(1,(.ref [(vI (k)),(vI (o)),(vI (m)),(.slice 1 (p) .no),(.slice 5 (a) .no),(.slice 8 (b) .no),(.slice 9 (c) .no),(.slice 4 (d) .no)]))],lm2 131 [],⟨[],[],.none,0⟩⟩).wp Pg cfg0 evp [] (fun r=>∃er,er≠4∧r=⟨oc er,.none,[]⟩):=a1j (a2x k o m p a b c d) (by
  repeat' first
   |exact b1A
   |exact a1A (by decide)
   |exact a1A (by assumption)
   |exact a1e (w9 _ _ _ _ _)
   |exact a1e (w8 _ _ _ _ _)
   |exact a1e (w7 _ _ _ _ _)
   |exact a1e (w6 _ _ _ _ _)
   |exact a1e (w5 _ _ _ _ _)
   |refine a1u ?_
   |refine a1h ?_
   |refine a1s ?_
   |refine a1c (d1j _) ?_ (fun er he=>?_)
   |refine a1c (b1G _ _ _) ?_ (fun er he=>?_)
   |refine b1h (fun i0 j0 k0=>?_)
   |refine a1c (a1Y hp) ?_ (fun er he=>?_)
   |refine a1c (a1J hp) ?_ (fun er he=>?_)
   |refine a1n (b1L hp) (fun b=>?_)
   |refine a1c (a1Z hp lp) ?_ (fun er he=>?_)
   |refine a1c (a1K hp lp) ?_ (fun er he=>?_)
   |refine a1c ea_pat ?_ (fun er he=>?_)
   |refine a1c eb_exp ?_ (fun er he=>?_)
   |refine a1c ec_dec ?_ (fun er he=>?_)
   |refine a1c ec_exp_1 ?_ (fun er he=>?_)
   |refine a1c ed_ty ?_ (fun er he=>?_)
   |refine a1d (fun h=>?_) (fun h=>?_))
 have w3:((t1h k o m p a b c d).K ⟨tm2 131 [(1,(.ref [(vI (k)),(vI (o)),(vI (m)),(.slice 1 (p) .no),(.slice 5 (a) .no),(.slice 8 (b) .no),(.slice 9 (c) .no),(.slice 4 (d) .no)]))],lm2 131 [],⟨[],[],.none,0⟩⟩).wp Pg cfg0 evp [] (fun r=>∃er,er≠4∧r=⟨oc er,.none,[]⟩):=a1j (a2w k o m p a b c d) (by
  repeat' first
   |exact b1A
   |exact a1A (by decide)
   |exact a1A (by assumption)
   |exact a1e (w9 _ _ _ _ _)
   |exact a1e (w8 _ _ _ _ _)
   |exact a1e (w7 _ _ _ _ _)
   |exact a1e (w6 _ _ _ _ _)
   |exact a1e (w5 _ _ _ _ _)
   |exact a1e (w4)
   |refine a1u ?_
   |refine a1h ?_
   |refine a1s ?_
   |refine a1c (d1j _) ?_ (fun er he=>?_)
   |refine a1c (b1G _ _ _) ?_ (fun er he=>?_)
   |refine b1h (fun i0 j0 k0=>?_)
   |refine a1c (a1Y hp) ?_ (fun er he=>?_)
   |refine a1c (a1J hp) ?_ (fun er he=>?_)
   |refine a1n (b1L hp) (fun b=>?_)
   |refine a1c (a1Z hp lp) ?_ (fun er he=>?_)
   |refine a1c (a1K hp lp) ?_ (fun er he=>?_)
   |refine a1c ea_pat ?_ (fun er he=>?_)
   |refine a1c eb_exp ?_ (fun er he=>?_)
   |refine a1c ec_dec ?_ (fun er he=>?_)
   |refine a1c ec_exp_1 ?_ (fun er he=>?_)
   |refine a1c ed_ty ?_ (fun er he=>?_)
   |refine a1d (fun h=>?_) (fun h=>?_))
 have w2:((t1g k o m p a b c d).K ⟨tm2 131 [(1,(.ref [(vI (k)),(vI (o)),(vI (m)),(.slice 1 (p) .no),(.slice 5 (a) .no),(.slice 8 (b) .no),(.slice 9 (c) .no),(.slice 4 (d) .no)]))],lm2 131 [],⟨[],[],.none,0⟩⟩).wp Pg cfg0 evp [] (fun r=>∃er,er≠4∧r=⟨oc er,.none,[]⟩):=a1j (a2v k o m p a b c d) (by
  repeat' first
   |exact b1A
   |exact a1A (by decide)
   |exact a1A (by assumption)
   |exact a1e (w9 _ _ _ _ _)
   |exact a1e (w8 _ _ _ _ _)
   |exact a1e (w7 _ _ _ _ _)
   |exact a1e (w6 _ _ _ _ _)
   |exact a1e (w5 _ _ _ _ _)
   |exact a1e (w4)
   |exact a1e (w3)
   |refine a1u ?_
   |refine a1h ?_
   |refine a1s ?_
   |refine a1c (d1j _) ?_ (fun er he=>?_)
   |refine a1c (b1G _ _ _) ?_ (fun er he=>?_)
   |refine b1h (fun i0 j0 k0=>?_)
   |refine a1c (a1Y hp) ?_ (fun er he=>?_)
   |refine a1c (a1J hp) ?_ (fun er he=>?_)
   |refine a1n (b1L hp) (fun b=>?_)
   |refine a1c (a1Z hp lp) ?_ (fun er he=>?_)
   |refine a1c (a1K hp lp) ?_ (fun er he=>?_)
   |refine a1c ea_pat ?_ (fun er he=>?_)
   |refine a1c eb_exp ?_ (fun er he=>?_)
   |refine a1c ec_dec ?_ (fun er he=>?_)
   |refine a1c ec_exp_1 ?_ (fun er he=>?_)
   |refine a1c ed_ty ?_ (fun er he=>?_)
   |refine a1d (fun h=>?_) (fun h=>?_))
 have w1:((X_Exp k o m p a b c d).K ⟨tm2 131 [(1,(.ref [(vI (k)),(vI (o)),(vI (m)),(.slice 1 (p) .no),(.slice 5 (a) .no),(.slice 8 (b) .no),(.slice 9 (c) .no),(.slice 4 (d) .no)]))],lm2 131 [],⟨[],[],.none,0⟩⟩).wp Pg cfg0 evp [] (fun r=>∃er,er≠4∧r=⟨oc er,.none,[]⟩):=a1j (a2u k o m p a b c d) (by
  repeat' first
   |exact b1A
   |exact a1A (by decide)
   |exact a1A (by assumption)
   |exact a1e (w9 _ _ _ _ _)
   |exact a1e (w8 _ _ _ _ _)
   |exact a1e (w7 _ _ _ _ _)
   |exact a1e (w6 _ _ _ _ _)
   |exact a1e (w5 _ _ _ _ _)
   |exact a1e (w4)
   |exact a1e (w3)
   |exact a1e (w2)
   |refine a1u ?_
   |refine a1h ?_
   |refine a1s ?_
   |refine a1c (d1j _) ?_ (fun er he=>?_)
   |refine a1c (b1G _ _ _) ?_ (fun er he=>?_)
   |refine b1h (fun i0 j0 k0=>?_)
   |refine a1c (a1Y hp) ?_ (fun er he=>?_)
   |refine a1c (a1J hp) ?_ (fun er he=>?_)
   |refine a1n (b1L hp) (fun b=>?_)
   |refine a1c (a1Z hp lp) ?_ (fun er he=>?_)
   |refine a1c (a1K hp lp) ?_ (fun er he=>?_)
   |refine a1c ea_pat ?_ (fun er he=>?_)
   |refine a1c eb_exp ?_ (fun er he=>?_)
   |refine a1c ec_dec ?_ (fun er he=>?_)
   |refine a1c ec_exp_1 ?_ (fun er he=>?_)
   |refine a1c ed_ty ?_ (fun er he=>?_)
   |refine a1d (fun h=>?_) (fun h=>?_))
 exact d1N (a1j (X_Exp_eq k o m p a b c d) (by
  repeat' first
   |exact b1A
   |exact a1A (by decide)
   |exact a1A (by assumption)
   |exact a1e (w9 _ _ _ _ _)
   |exact a1e (w8 _ _ _ _ _)
   |exact a1e (w7 _ _ _ _ _)
   |exact a1e (w6 _ _ _ _ _)
   |exact a1e (w5 _ _ _ _ _)
   |exact a1e (w4)
   |exact a1e (w3)
   |exact a1e (w2)
   |exact a1e (w1)
   |refine a1u ?_
   |refine a1h ?_
   |refine a1s ?_
   |refine a1c (d1j _) ?_ (fun er he=>?_)
   |refine a1c (b1G _ _ _) ?_ (fun er he=>?_)
   |refine b1h (fun i0 j0 k0=>?_)
   |refine a1c (a1Y hp) ?_ (fun er he=>?_)
   |refine a1c (a1J hp) ?_ (fun er he=>?_)
   |refine a1n (b1L hp) (fun b=>?_)
   |refine a1c (a1Z hp lp) ?_ (fun er he=>?_)
   |refine a1c (a1K hp lp) ?_ (fun er he=>?_)
   |refine a1c ea_pat ?_ (fun er he=>?_)
   |refine a1c eb_exp ?_ (fun er he=>?_)
   |refine a1c ec_dec ?_ (fun er he=>?_)
   |refine a1c ec_exp_1 ?_ (fun er he=>?_)
   |refine a1c ed_ty ?_ (fun er he=>?_)
   |refine a1d (fun h=>?_) (fun h=>?_)))
theorem a_Con {n:ByteArray} {a:List (List AV)} (hn:n.size<c1j) (ea_ty:∃er,er≠4∧evp a1m [.slice 4 a .no,.func (.func a1G) [] []] .none []=some ⟨oc er,.none,[]⟩):∃er,er≠4∧evp b1C [.agg [vS n,.slice 4 a .no]] .none []=some ⟨oc er,.none,[]⟩:=by
 exact d1N (a1j (f2U n a) (by
  repeat' first
   |exact b1A
   |exact a1A (by decide)
   |exact a1A (by assumption)
   |refine a1u ?_
   |refine a1h ?_
   |refine a1s ?_
   |refine a1c (d1j _) ?_ (fun er he=>?_)
   |refine a1c (b1G _ _ _) ?_ (fun er he=>?_)
   |refine b1h (fun i0 j0 k0=>?_)
   |refine a1c (c1c hn) ?_ (fun er he=>?_)
   |refine a1c (b1K hn) ?_ (fun er he=>?_)
   |refine a1n (d1s hn) (fun b=>?_)
   |refine a1c ea_ty ?_ (fun er he=>?_)
   |refine a1d (fun h=>?_) (fun h=>?_)))
theorem a_Dec {k:Int} {o:Int} {n:ByteArray} {p:List (List AV)} {a:List (List AV)} {b:List (List AV)} {c:List (List AV)} {d:List (List AV)} {e:List (List AV)} (hn:n.size<c1j) (hp:Strs p) (lp:p.length<c1j) (ea_ty:∃er,er≠4∧evp a1m [.slice 4 a .no,.func (.func a1G) [] []] .none []=some ⟨oc er,.none,[]⟩) (eb_exp:∃er,er≠4∧evp a1P [.slice 8 b .no,.func (.func b1e) [] []] .none []=some ⟨oc er,.none,[]⟩) (ec_con:∃er,er≠4∧evp a1Q [.slice 2 c .no,.func (.func b1C) [] []] .none []=some ⟨oc er,.none,[]⟩) (ed_mod:∃er,er≠4∧evp a1R [.slice 5 d .no,.func (.func b1w) [] []] .none []=some ⟨oc er,.none,[]⟩) (ee_sig:∃er,er≠4∧evp a1w [.slice 5 e .no,.func (.func b1b) [] []] .none []=some ⟨oc er,.none,[]⟩):∃er,er≠4∧evp b1B [.agg [vI k,vI o,vS n,.slice 1 p .no,.slice 4 a .no,.slice 8 b .no,.slice 2 c .no,.slice 5 d .no,.slice 5 e .no]] .none []=some ⟨oc er,.none,[]⟩:=by
 have w4:∀(q2x0:Bool) (q2x1:Int) (q2x2:Int) (q2x3:Int) (q2x4:Int) (q2x5:Int) (q2x6:Int) (q2x7:Int) (q2x8:Int) (q2x9:Int) (q2x10:Int) (q2x11:Int) (q2x12:Int),((n1g k o n p a b c d e q2x0 q2x1 q2x2 q2x3 q2x4 q2x5 q2x6 q2x7 q2x8 q2x9 q2x10 q2x11 q2x12).T.T.T.T.T.T.T.T.T.T.T.T.F.K ⟨tm2 119 [(1,(.ref [(vI (k)),(vI (o)),(vS (n)),(.slice 1 (p) .no),(.slice 4 (a) .no),(.slice 8 (b) .no),(.slice 2 (c) .no),(.slice 5 (d) .no),(.slice 5 (e) .no)])),(9,(.func (.func a1B) [] []))],lm2 119 [],⟨[],[],.none,0⟩⟩).wp Pg cfg0 evp [] (fun r=>∃er,er≠4∧r=⟨oc er,.none,[]⟩):=fun q2x0 q2x1 q2x2 q2x3 q2x4 q2x5 q2x6 q2x7 q2x8 q2x9 q2x10 q2x11 q2x12=>a1j (a2F k o n p a b c d e q2x0 q2x1 q2x2 q2x3 q2x4 q2x5 q2x6 q2x7 q2x8 q2x9 q2x10 q2x11 q2x12) (by
  repeat' first
   |exact b1A
   |exact a1A (by decide)
   |exact a1A (by assumption)
   |refine a1u ?_
   |refine a1h ?_
   |refine a1s ?_
   |refine a1c (d1j _) ?_ (fun er he=>?_)
   |refine a1c (b1G _ _ _) ?_ (fun er he=>?_)
   |refine b1h (fun i0 j0 k0=>?_)
   |refine a1c (c1c hn) ?_ (fun er he=>?_)
   |refine a1c (b1K hn) ?_ (fun er he=>?_)
   |refine a1n (d1s hn) (fun b=>?_)
   |refine a1c (a1Y hp) ?_ (fun er he=>?_)
   |refine a1c (a1J hp) ?_ (fun er he=>?_)
   |refine a1n (b1L hp) (fun b=>?_)
   |refine a1c (a1Z hp lp) ?_ (fun er he=>?_)
   |refine a1c (a1K hp lp) ?_ (fun er he=>?_)
   |refine a1c ea_ty ?_ (fun er he=>?_)
   |refine a1c eb_exp ?_ (fun er he=>?_)
   |refine a1c ec_con ?_ (fun er he=>?_)
   |refine a1c ed_mod ?_ (fun er he=>?_)
   |refine a1c ee_sig ?_ (fun er he=>?_)
   |refine a1d (fun h=>?_) (fun h=>?_))
 have w3:∀(q2x0:Bool) (q2x1:Int) (q2x2:Int) (q2x3:Int) (q2x4:Int) (q2x5:Int) (q2x6:Int) (q2x7:Int) (q2x8:Int) (q2x9:Int) (q2x10:Int) (q2x11:Int) (q2x12:Int),((n1g k o n p a b c d e q2x0 q2x1 q2x2 q2x3 q2x4 q2x5 q2x6 q2x7 q2x8 q2x9 q2x10 q2x11 q2x12).T.T.T.T.T.T.T.T.T.T.T.T.T.K ⟨tm2 119 [(1,(.ref [(vI (k)),(vI (o)),(vS (n)),(.slice 1 (p) .no),(.slice 4 (a) .no),(.slice 8 (b) .no),(.slice 2 (c) .no),(.slice 5 (d) .no),(.slice 5 (e) .no)])),(9,(.func (.func a1H) [] []))],lm2 119 [],⟨[],[],.none,0⟩⟩).wp Pg cfg0 evp [] (fun r=>∃er,er≠4∧r=⟨oc er,.none,[]⟩):=fun q2x0 q2x1 q2x2 q2x3 q2x4 q2x5 q2x6 q2x7 q2x8 q2x9 q2x10 q2x11 q2x12=>a1j (a2G k o n p a b c d e q2x0 q2x1 q2x2 q2x3 q2x4 q2x5 q2x6 q2x7 q2x8 q2x9 q2x10 q2x11 q2x12) (by
  repeat' first
   |exact b1A
   |exact a1A (by decide)
   |exact a1A (by assumption)
   |exact a1e (w4 _ _ _ _ _ _ _ _ _ _ _ _ _)
   |refine a1u ?_
   |refine a1h ?_
   |refine a1s ?_
   |refine a1c (d1j _) ?_ (fun er he=>?_)
   |refine a1c (b1G _ _ _) ?_ (fun er he=>?_)
   |refine b1h (fun i0 j0 k0=>?_)
   |refine a1c (c1c hn) ?_ (fun er he=>?_)
   |refine a1c (b1K hn) ?_ (fun er he=>?_)
   |refine a1n (d1s hn) (fun b=>?_)
   |refine a1c (a1Y hp) ?_ (fun er he=>?_)
   |refine a1c (a1J hp) ?_ (fun er he=>?_)
   |refine a1n (b1L hp) (fun b=>?_)
   |refine a1c (a1Z hp lp) ?_ (fun er he=>?_)
   |refine a1c (a1K hp lp) ?_ (fun er he=>?_)
   |refine a1c ea_ty ?_ (fun er he=>?_)
   |refine a1c eb_exp ?_ (fun er he=>?_)
   |refine a1c ec_con ?_ (fun er he=>?_)
   |refine a1c ed_mod ?_ (fun er he=>?_)
   |refine a1c ee_sig ?_ (fun er he=>?_)
   |refine a1d (fun h=>?_) (fun h=>?_))
 have w2:∀(q2x0:Bool) (q2x1:Int) (q2x2:Int) (q2x3:Int) (q2x4:Int) (q2x5:Int) (q2x6:Int) (q2x7:Int) (q2x8:Int) (q2x9:Int) (q2x10:Int) (q2x11:Int) (q2x12:Int),((t1n k o n p a b c d e).K ⟨tm2 119 [(1,(.ref [(vI (k)),(vI (o)),(vS (n)),(.slice 1 (p) .no),(.slice 4 (a) .no),(.slice 8 (b) .no),(.slice 2 (c) .no),(.slice 5 (d) .no),(.slice 5 (e) .no)])),(2,(.lp 2 0 0)),(3,(.lp 3 0 0)),(4,(.lp 4 0 0)),(5,(.lp 5 0 0)),(6,(.lp 6 0 0)),(7,(.lp 7 0 0)),(8,(vB (q2x0)))],lm2 119 [(2,(0,[(vI (q2x1)),(vI (q2x2))])),(3,(0,[(vI (q2x3)),(vI (q2x4))])),(4,(0,[(vI (q2x5)),(vI (q2x6))])),(5,(0,[(vI (q2x7)),(vI (q2x8))])),(6,(0,[(vI (q2x9)),(vI (q2x10))])),(7,(0,[(vI (q2x11)),(vI (q2x12))]))],⟨[],[],.none,0⟩⟩).wp Pg cfg0 evp [] (fun r=>∃er,er≠4∧r=⟨oc er,.none,[]⟩):=fun q2x0 q2x1 q2x2 q2x3 q2x4 q2x5 q2x6 q2x7 q2x8 q2x9 q2x10 q2x11 q2x12=>a1j (a2E k o n p a b c d e q2x0 q2x1 q2x2 q2x3 q2x4 q2x5 q2x6 q2x7 q2x8 q2x9 q2x10 q2x11 q2x12) (by
  repeat' first
   |exact b1A
   |exact a1A (by decide)
   |exact a1A (by assumption)
   |exact a1e (w4 _ _ _ _ _ _ _ _ _ _ _ _ _)
   |exact a1e (w3 _ _ _ _ _ _ _ _ _ _ _ _ _)
   |refine a1u ?_
   |refine a1h ?_
   |refine a1s ?_
   |refine a1c (d1j _) ?_ (fun er he=>?_)
   |refine a1c (b1G _ _ _) ?_ (fun er he=>?_)
   |refine b1h (fun i0 j0 k0=>?_)
   |refine a1c (c1c hn) ?_ (fun er he=>?_)
   |refine a1c (b1K hn) ?_ (fun er he=>?_)
   |refine a1n (d1s hn) (fun b=>?_)
   |refine a1c (a1Y hp) ?_ (fun er he=>?_)
   |refine a1c (a1J hp) ?_ (fun er he=>?_)
   |refine a1n (b1L hp) (fun b=>?_)
   |refine a1c (a1Z hp lp) ?_ (fun er he=>?_)
   |refine a1c (a1K hp lp) ?_ (fun er he=>?_)
   |refine a1c ea_ty ?_ (fun er he=>?_)
   |refine a1c eb_exp ?_ (fun er he=>?_)
   |refine a1c ec_con ?_ (fun er he=>?_)
   |refine a1c ed_mod ?_ (fun er he=>?_)
   |refine a1c ee_sig ?_ (fun er he=>?_)
   |refine a1d (fun h=>?_) (fun h=>?_))
 have w1:((f2V k o n p a b c d e).K ⟨tm2 119 [(1,(.ref [(vI (k)),(vI (o)),(vS (n)),(.slice 1 (p) .no),(.slice 4 (a) .no),(.slice 8 (b) .no),(.slice 2 (c) .no),(.slice 5 (d) .no),(.slice 5 (e) .no)]))],lm2 119 [],⟨[],[],.none,0⟩⟩).wp Pg cfg0 evp [] (fun r=>∃er,er≠4∧r=⟨oc er,.none,[]⟩):=a1j (a2D k o n p a b c d e) (by
  repeat' first
   |exact b1A
   |exact a1A (by decide)
   |exact a1A (by assumption)
   |exact a1e (w4 _ _ _ _ _ _ _ _ _ _ _ _ _)
   |exact a1e (w3 _ _ _ _ _ _ _ _ _ _ _ _ _)
   |exact a1e (w2 _ _ _ _ _ _ _ _ _ _ _ _ _)
   |refine a1u ?_
   |refine a1h ?_
   |refine a1s ?_
   |refine a1c (d1j _) ?_ (fun er he=>?_)
   |refine a1c (b1G _ _ _) ?_ (fun er he=>?_)
   |refine b1h (fun i0 j0 k0=>?_)
   |refine a1c (c1c hn) ?_ (fun er he=>?_)
   |refine a1c (b1K hn) ?_ (fun er he=>?_)
   |refine a1n (d1s hn) (fun b=>?_)
   |refine a1c (a1Y hp) ?_ (fun er he=>?_)
   |refine a1c (a1J hp) ?_ (fun er he=>?_)
   |refine a1n (b1L hp) (fun b=>?_)
   |refine a1c (a1Z hp lp) ?_ (fun er he=>?_)
   |refine a1c (a1K hp lp) ?_ (fun er he=>?_)
   |refine a1c ea_ty ?_ (fun er he=>?_)
   |refine a1c eb_exp ?_ (fun er he=>?_)
   |refine a1c ec_con ?_ (fun er he=>?_)
   |refine a1c ed_mod ?_ (fun er he=>?_)
   |refine a1c ee_sig ?_ (fun er he=>?_)
   |refine a1d (fun h=>?_) (fun h=>?_))
 exact d1N (a1j (f2W k o n p a b c d e) (by
  repeat' first
   |exact b1A
   |exact a1A (by decide)
   |exact a1A (by assumption)
   |exact a1e (w4 _ _ _ _ _ _ _ _ _ _ _ _ _)
   |exact a1e (w3 _ _ _ _ _ _ _ _ _ _ _ _ _)
   |exact a1e (w2 _ _ _ _ _ _ _ _ _ _ _ _ _)
   |exact a1e (w1)
   |refine a1u ?_
   |refine a1h ?_
   |refine a1s ?_
   |refine a1c (d1j _) ?_ (fun er he=>?_)
   |refine a1c (b1G _ _ _) ?_ (fun er he=>?_)
   |refine b1h (fun i0 j0 k0=>?_)
   |refine a1c (c1c hn) ?_ (fun er he=>?_)
   |refine a1c (b1K hn) ?_ (fun er he=>?_)
   |refine a1n (d1s hn) (fun b=>?_)
   |refine a1c (a1Y hp) ?_ (fun er he=>?_)
   |refine a1c (a1J hp) ?_ (fun er he=>?_)
   |refine a1n (b1L hp) (fun b=>?_)
   |refine a1c (a1Z hp lp) ?_ (fun er he=>?_)
   |refine a1c (a1K hp lp) ?_ (fun er he=>?_)
   |refine a1c ea_ty ?_ (fun er he=>?_)
   |refine a1c eb_exp ?_ (fun er he=>?_)
   |refine a1c ec_con ?_ (fun er he=>?_)
   |refine a1c ed_mod ?_ (fun er he=>?_)
   |refine a1c ee_sig ?_ (fun er he=>?_)
   |refine a1d (fun h=>?_) (fun h=>?_)))
theorem a_Mod {k:Int} {p:List (List AV)} {a:List (List AV)} {b:List (List AV)} {c:List (List AV)} (hp:Strs p) (lp:p.length<c1j) (ea_dec:∃er,er≠4∧evp a1y [.slice 9 a .no,.func (.func b1B) [] []] .none []=some ⟨oc er,.none,[]⟩) (ea_exp_1:∃er,er≠4∧evp a1y [.slice 9 a .no,.func (.func b1v) [] []] .none []=some ⟨oc er,.none,[]⟩) (eb_mod:∃er,er≠4∧evp a1R [.slice 5 b .no,.func (.func b1w) [] []] .none []=some ⟨oc er,.none,[]⟩) (ec_sig:∃er,er≠4∧evp a1w [.slice 5 c .no,.func (.func b1b) [] []] .none []=some ⟨oc er,.none,[]⟩):∃er,er≠4∧evp b1w [.agg [vI k,.slice 1 p .no,.slice 9 a .no,.slice 5 b .no,.slice 5 c .no]] .none []=some ⟨oc er,.none,[]⟩:=by
 have w5:∀(q2x0:Bool) (q3x0:Int) (q3x1:Int),((x1d k p a b c q2x0 q3x0 q3x1).K ⟨tm2 81 [(1,(.ref [(vI (k)),(.slice 1 (p) .no),(.slice 9 (a) .no),(.slice 5 (b) .no),(.slice 5 (c) .no)]))],lm2 81 [],⟨[],[],.none,0⟩⟩).wp Pg cfg0 evp [] (fun r=>∃er,er≠4∧r=⟨oc er,.none,[]⟩):=fun q2x0 q3x0 q3x1=>a1j (a2L k p a b c q2x0 q3x0 q3x1) (by
  repeat' first
   |exact b1A
   |exact a1A (by decide)
   |exact a1A (by assumption)
   |refine a1u ?_
   |refine a1h ?_
   |refine a1s ?_
   |refine a1c (d1j _) ?_ (fun er he=>?_)
   |refine a1c (b1G _ _ _) ?_ (fun er he=>?_)
   |refine b1h (fun i0 j0 k0=>?_)
   |refine a1c (a1Y hp) ?_ (fun er he=>?_)
   |refine a1c (a1J hp) ?_ (fun er he=>?_)
   |refine a1n (b1L hp) (fun b=>?_)
   |refine a1c (a1Z hp lp) ?_ (fun er he=>?_)
   |refine a1c (a1K hp lp) ?_ (fun er he=>?_)
   |refine a1c ea_dec ?_ (fun er he=>?_)
   |refine a1c ea_exp_1 ?_ (fun er he=>?_)
   |refine a1c eb_mod ?_ (fun er he=>?_)
   |refine a1c ec_sig ?_ (fun er he=>?_)
   |refine a1d (fun h=>?_) (fun h=>?_))
 have w4:∀(q2x0:Bool) (q3x0:Int) (q3x1:Int),((t1q k p a b c q2x0 q3x0 q3x1).K ⟨tm2 81 [(1,(.ref [(vI (k)),(.slice 1 (p) .no),(.slice 9 (a) .no),(.slice 5 (b) .no),(.slice 5 (c) .no)])),(2,(vB (q2x0)))],lm2 81 [],⟨[],[],.none,0⟩⟩).wp Pg cfg0 evp [] (fun r=>∃er,er≠4∧r=⟨oc er,.none,[]⟩):=fun q2x0 q3x0 q3x1=>a1j (a2K k p a b c q2x0 q3x0 q3x1) (by
  repeat' first
   |exact b1A
   |exact a1A (by decide)
   |exact a1A (by assumption)
   |exact a1e (w5 _ _ _)
   |refine a1u ?_
   |refine a1h ?_
   |refine a1s ?_
   |refine a1c (d1j _) ?_ (fun er he=>?_)
   |refine a1c (b1G _ _ _) ?_ (fun er he=>?_)
   |refine b1h (fun i0 j0 k0=>?_)
   |refine a1c (a1Y hp) ?_ (fun er he=>?_)
   |refine a1c (a1J hp) ?_ (fun er he=>?_)
   |refine a1n (b1L hp) (fun b=>?_)
   |refine a1c (a1Z hp lp) ?_ (fun er he=>?_)
   |refine a1c (a1K hp lp) ?_ (fun er he=>?_)
   |refine a1c ea_dec ?_ (fun er he=>?_)
   |refine a1c ea_exp_1 ?_ (fun er he=>?_)
   |refine a1c eb_mod ?_ (fun er he=>?_)
   |refine a1c ec_sig ?_ (fun er he=>?_)
   |refine a1d (fun h=>?_) (fun h=>?_))
 have w3:∀(q2x0:Bool) (q3x0:Int) (q3x1:Int),((t1p k p a b c q2x0).K ⟨tm2 81 [(1,(.ref [(vI (k)),(.slice 1 (p) .no),(.slice 9 (a) .no),(.slice 5 (b) .no),(.slice 5 (c) .no)])),(2,(vB (q2x0))),(3,(vI (q3x0))),(4,(vI (q3x1)))],lm2 81 [],⟨[],[],.none,0⟩⟩).wp Pg cfg0 evp [] (fun r=>∃er,er≠4∧r=⟨oc er,.none,[]⟩):=fun q2x0 q3x0 q3x1=>a1j (a2J k p a b c q2x0 q3x0 q3x1) (by
  repeat' first
   |exact b1A
   |exact a1A (by decide)
   |exact a1A (by assumption)
   |exact a1e (w5 _ _ _)
   |exact a1e (w4 _ _ _)
   |refine a1u ?_
   |refine a1h ?_
   |refine a1s ?_
   |refine a1c (d1j _) ?_ (fun er he=>?_)
   |refine a1c (b1G _ _ _) ?_ (fun er he=>?_)
   |refine b1h (fun i0 j0 k0=>?_)
   |refine a1c (a1Y hp) ?_ (fun er he=>?_)
   |refine a1c (a1J hp) ?_ (fun er he=>?_)
   |refine a1n (b1L hp) (fun b=>?_)
   |refine a1c (a1Z hp lp) ?_ (fun er he=>?_)
   |refine a1c (a1K hp lp) ?_ (fun er he=>?_)
   |refine a1c ea_dec ?_ (fun er he=>?_)
   |refine a1c ea_exp_1 ?_ (fun er he=>?_)
   |refine a1c eb_mod ?_ (fun er he=>?_)
   |refine a1c ec_sig ?_ (fun er he=>?_)
   |refine a1d (fun h=>?_) (fun h=>?_))
 have w2:∀(q2x0:Bool),((t1o k p a b c).K ⟨tm2 81 [(1,(.ref [(vI (k)),(.slice 1 (p) .no),(.slice 9 (a) .no),(.slice 5 (b) .no),(.slice 5 (c) .no)])),(2,(vB (q2x0)))],lm2 81 [],⟨[],[],.none,0⟩⟩).wp Pg cfg0 evp [] (fun r=>∃er,er≠4∧r=⟨oc er,.none,[]⟩):=fun q2x0=>a1j (a2I k p a b c q2x0) (by
  repeat' first
   |exact b1A
   |exact a1A (by decide)
   |exact a1A (by assumption)
   |exact a1e (w5 _ _ _)
   |exact a1e (w4 _ _ _)
   |exact a1e (w3 _ _ _)
   |refine a1u ?_
   |refine a1h ?_
   |refine a1s ?_
   |refine a1c (d1j _) ?_ (fun er he=>?_)
   |refine a1c (b1G _ _ _) ?_ (fun er he=>?_)
   |refine b1h (fun i0 j0 k0=>?_)
   |refine a1c (a1Y hp) ?_ (fun er he=>?_)
   |refine a1c (a1J hp) ?_ (fun er he=>?_)
   |refine a1n (b1L hp) (fun b=>?_)
   |refine a1c (a1Z hp lp) ?_ (fun er he=>?_)
   |refine a1c (a1K hp lp) ?_ (fun er he=>?_)
   |refine a1c ea_dec ?_ (fun er he=>?_)
   |refine a1c ea_exp_1 ?_ (fun er he=>?_)
   |refine a1c eb_mod ?_ (fun er he=>?_)
   |refine a1c ec_sig ?_ (fun er he=>?_)
   |refine a1d (fun h=>?_) (fun h=>?_))
 have w1:((f2X k p a b c).K ⟨tm2 81 [(1,(.ref [(vI (k)),(.slice 1 (p) .no),(.slice 9 (a) .no),(.slice 5 (b) .no),(.slice 5 (c) .no)]))],lm2 81 [],⟨[],[],.none,0⟩⟩).wp Pg cfg0 evp [] (fun r=>∃er,er≠4∧r=⟨oc er,.none,[]⟩):=a1j (a2H k p a b c) (by
  repeat' first
   |exact b1A
   |exact a1A (by decide)
   |exact a1A (by assumption)
   |exact a1e (w5 _ _ _)
   |exact a1e (w4 _ _ _)
   |exact a1e (w3 _ _ _)
   |exact a1e (w2 _)
   |refine a1u ?_
   |refine a1h ?_
   |refine a1s ?_
   |refine a1c (d1j _) ?_ (fun er he=>?_)
   |refine a1c (b1G _ _ _) ?_ (fun er he=>?_)
   |refine b1h (fun i0 j0 k0=>?_)
   |refine a1c (a1Y hp) ?_ (fun er he=>?_)
   |refine a1c (a1J hp) ?_ (fun er he=>?_)
   |refine a1n (b1L hp) (fun b=>?_)
   |refine a1c (a1Z hp lp) ?_ (fun er he=>?_)
   |refine a1c (a1K hp lp) ?_ (fun er he=>?_)
   |refine a1c ea_dec ?_ (fun er he=>?_)
   |refine a1c ea_exp_1 ?_ (fun er he=>?_)
   |refine a1c eb_mod ?_ (fun er he=>?_)
   |refine a1c ec_sig ?_ (fun er he=>?_)
   |refine a1d (fun h=>?_) (fun h=>?_))
 exact d1N (a1j (f2Y k p a b c) (by
  repeat' first
   |exact b1A
   |exact a1A (by decide)
   |exact a1A (by assumption)
   |exact a1e (w5 _ _ _)
   |exact a1e (w4 _ _ _)
   |exact a1e (w3 _ _ _)
   |exact a1e (w2 _)
   |exact a1e (w1)
   |refine a1u ?_
   |refine a1h ?_
   |refine a1s ?_
   |refine a1c (d1j _) ?_ (fun er he=>?_)
   |refine a1c (b1G _ _ _) ?_ (fun er he=>?_)
   |refine b1h (fun i0 j0 k0=>?_)
   |refine a1c (a1Y hp) ?_ (fun er he=>?_)
   |refine a1c (a1J hp) ?_ (fun er he=>?_)
   |refine a1n (b1L hp) (fun b=>?_)
   |refine a1c (a1Z hp lp) ?_ (fun er he=>?_)
   |refine a1c (a1K hp lp) ?_ (fun er he=>?_)
   |refine a1c ea_dec ?_ (fun er he=>?_)
   |refine a1c ea_exp_1 ?_ (fun er he=>?_)
   |refine a1c eb_mod ?_ (fun er he=>?_)
   |refine a1c ec_sig ?_ (fun er he=>?_)
   |refine a1d (fun h=>?_) (fun h=>?_)))
theorem a_Sig {k:Int} {p:List (List AV)} {a:List (List AV)} {b:List (List AV)} {c:List (List AV)} (hp:Strs p) (lp:p.length<c1j) (ea_spec:∃er,er≠4∧evp a1L [.slice 6 a .no,.func (.func b1I) [] []] .none []=some ⟨oc er,.none,[]⟩) (eb_sig:∃er,er≠4∧evp a1w [.slice 5 b .no,.func (.func b1b) [] []] .none []=some ⟨oc er,.none,[]⟩) (ec_ty:∃er,er≠4∧evp a1m [.slice 4 c .no,.func (.func a1G) [] []] .none []=some ⟨oc er,.none,[]⟩):∃er,er≠4∧evp b1b [.agg [vI k,.slice 1 p .no,.slice 6 a .no,.slice 5 b .no,.slice 4 c .no]] .none []=some ⟨oc er,.none,[]⟩:=by
 have w5:∀(q2x0:Int),((x1e k p a b c q2x0).K ⟨tm2 71 [(1,(.ref [(vI (k)),(.slice 1 (p) .no),(.slice 6 (a) .no),(.slice 5 (b) .no),(.slice 4 (c) .no)]))],lm2 71 [],⟨[],[],.none,0⟩⟩).wp Pg cfg0 evp [] (fun r=>∃er,er≠4∧r=⟨oc er,.none,[]⟩):=fun q2x0=>a1j (a2Q k p a b c q2x0) (by
  repeat' first
   |exact b1A
   |exact a1A (by decide)
   |exact a1A (by assumption)
   |refine a1u ?_
   |refine a1h ?_
   |refine a1s ?_
   |refine a1c (d1j _) ?_ (fun er he=>?_)
   |refine a1c (b1G _ _ _) ?_ (fun er he=>?_)
   |refine b1h (fun i0 j0 k0=>?_)
   |refine a1c (a1Y hp) ?_ (fun er he=>?_)
   |refine a1c (a1J hp) ?_ (fun er he=>?_)
   |refine a1n (b1L hp) (fun b=>?_)
   |refine a1c (a1Z hp lp) ?_ (fun er he=>?_)
   |refine a1c (a1K hp lp) ?_ (fun er he=>?_)
   |refine a1c ea_spec ?_ (fun er he=>?_)
   |refine a1c eb_sig ?_ (fun er he=>?_)
   |refine a1c ec_ty ?_ (fun er he=>?_)
   |refine a1d (fun h=>?_) (fun h=>?_))
 have w4:∀(q2x0:Int),((t1t k p a b c q2x0).K ⟨tm2 71 [(1,(.ref [(vI (k)),(.slice 1 (p) .no),(.slice 6 (a) .no),(.slice 5 (b) .no),(.slice 4 (c) .no)]))],lm2 71 [],⟨[],[],.none,0⟩⟩).wp Pg cfg0 evp [] (fun r=>∃er,er≠4∧r=⟨oc er,.none,[]⟩):=fun q2x0=>a1j (a2P k p a b c q2x0) (by
  repeat' first
   |exact b1A
   |exact a1A (by decide)
   |exact a1A (by assumption)
   |exact a1e (w5 _)
   |refine a1u ?_
   |refine a1h ?_
   |refine a1s ?_
   |refine a1c (d1j _) ?_ (fun er he=>?_)
   |refine a1c (b1G _ _ _) ?_ (fun er he=>?_)
   |refine b1h (fun i0 j0 k0=>?_)
   |refine a1c (a1Y hp) ?_ (fun er he=>?_)
   |refine a1c (a1J hp) ?_ (fun er he=>?_)
   |refine a1n (b1L hp) (fun b=>?_)
   |refine a1c (a1Z hp lp) ?_ (fun er he=>?_)
   |refine a1c (a1K hp lp) ?_ (fun er he=>?_)
   |refine a1c ea_spec ?_ (fun er he=>?_)
   |refine a1c eb_sig ?_ (fun er he=>?_)
   |refine a1c ec_ty ?_ (fun er he=>?_)
   |refine a1d (fun h=>?_) (fun h=>?_))
 have w3:∀(q2x0:Int),((t1s k p a b c q2x0).K ⟨tm2 71 [(1,(.ref [(vI (k)),(.slice 1 (p) .no),(.slice 6 (a) .no),(.slice 5 (b) .no),(.slice 4 (c) .no)]))],lm2 71 [],⟨[],[],.none,0⟩⟩).wp Pg cfg0 evp [] (fun r=>∃er,er≠4∧r=⟨oc er,.none,[]⟩):=fun q2x0=>a1j (a2O k p a b c q2x0) (by
  repeat' first
   |exact b1A
   |exact a1A (by decide)
   |exact a1A (by assumption)
   |exact a1e (w5 _)
   |exact a1e (w4 _)
   |refine a1u ?_
   |refine a1h ?_
   |refine a1s ?_
   |refine a1c (d1j _) ?_ (fun er he=>?_)
   |refine a1c (b1G _ _ _) ?_ (fun er he=>?_)
   |refine b1h (fun i0 j0 k0=>?_)
   |refine a1c (a1Y hp) ?_ (fun er he=>?_)
   |refine a1c (a1J hp) ?_ (fun er he=>?_)
   |refine a1n (b1L hp) (fun b=>?_)
   |refine a1c (a1Z hp lp) ?_ (fun er he=>?_)
   |refine a1c (a1K hp lp) ?_ (fun er he=>?_)
   |refine a1c ea_spec ?_ (fun er he=>?_)
   |refine a1c eb_sig ?_ (fun er he=>?_)
   |refine a1c ec_ty ?_ (fun er he=>?_)
   |refine a1d (fun h=>?_) (fun h=>?_))
 have w2:∀(q2x0:Int),((t1r k p a b c).K ⟨tm2 71 [(1,(.ref [(vI (k)),(.slice 1 (p) .no),(.slice 6 (a) .no),(.slice 5 (b) .no),(.slice 4 (c) .no)])),(2,(vI (q2x0)))],lm2 71 [],⟨[],[],.none,0⟩⟩).wp Pg cfg0 evp [] (fun r=>∃er,er≠4∧r=⟨oc er,.none,[]⟩):=fun q2x0=>a1j (a2N k p a b c q2x0) (by
  repeat' first
   |exact b1A
   |exact a1A (by decide)
   |exact a1A (by assumption)
   |exact a1e (w5 _)
   |exact a1e (w4 _)
   |exact a1e (w3 _)
   |refine a1u ?_
   |refine a1h ?_
   |refine a1s ?_
   |refine a1c (d1j _) ?_ (fun er he=>?_)
   |refine a1c (b1G _ _ _) ?_ (fun er he=>?_)
   |refine b1h (fun i0 j0 k0=>?_)
   |refine a1c (a1Y hp) ?_ (fun er he=>?_)
   |refine a1c (a1J hp) ?_ (fun er he=>?_)
   |refine a1n (b1L hp) (fun b=>?_)
   |refine a1c (a1Z hp lp) ?_ (fun er he=>?_)
   |refine a1c (a1K hp lp) ?_ (fun er he=>?_)
   |refine a1c ea_spec ?_ (fun er he=>?_)
   |refine a1c eb_sig ?_ (fun er he=>?_)
   |refine a1c ec_ty ?_ (fun er he=>?_)
   |refine a1d (fun h=>?_) (fun h=>?_))
 have w1:((f2Z k p a b c).K ⟨tm2 71 [(1,(.ref [(vI (k)),(.slice 1 (p) .no),(.slice 6 (a) .no),(.slice 5 (b) .no),(.slice 4 (c) .no)]))],lm2 71 [],⟨[],[],.none,0⟩⟩).wp Pg cfg0 evp [] (fun r=>∃er,er≠4∧r=⟨oc er,.none,[]⟩):=a1j (a2M k p a b c) (by
  repeat' first
   |exact b1A
   |exact a1A (by decide)
   |exact a1A (by assumption)
   |exact a1e (w5 _)
   |exact a1e (w4 _)
   |exact a1e (w3 _)
   |exact a1e (w2 _)
   |refine a1u ?_
   |refine a1h ?_
   |refine a1s ?_
   |refine a1c (d1j _) ?_ (fun er he=>?_)
   |refine a1c (b1G _ _ _) ?_ (fun er he=>?_)
   |refine b1h (fun i0 j0 k0=>?_)
   |refine a1c (a1Y hp) ?_ (fun er he=>?_)
   |refine a1c (a1J hp) ?_ (fun er he=>?_)
   |refine a1n (b1L hp) (fun b=>?_)
   |refine a1c (a1Z hp lp) ?_ (fun er he=>?_)
   |refine a1c (a1K hp lp) ?_ (fun er he=>?_)
   |refine a1c ea_spec ?_ (fun er he=>?_)
   |refine a1c eb_sig ?_ (fun er he=>?_)
   |refine a1c ec_ty ?_ (fun er he=>?_)
   |refine a1d (fun h=>?_) (fun h=>?_))
 exact d1N (a1j (g2a k p a b c) (by
  repeat' first
   |exact b1A
   |exact a1A (by decide)
   |exact a1A (by assumption)
   |exact a1e (w5 _)
   |exact a1e (w4 _)
   |exact a1e (w3 _)
   |exact a1e (w2 _)
   |exact a1e (w1)
   |refine a1u ?_
   |refine a1h ?_
   |refine a1s ?_
   |refine a1c (d1j _) ?_ (fun er he=>?_)
   |refine a1c (b1G _ _ _) ?_ (fun er he=>?_)
   |refine b1h (fun i0 j0 k0=>?_)
   |refine a1c (a1Y hp) ?_ (fun er he=>?_)
   |refine a1c (a1J hp) ?_ (fun er he=>?_)
   |refine a1n (b1L hp) (fun b=>?_)
   |refine a1c (a1Z hp lp) ?_ (fun er he=>?_)
   |refine a1c (a1K hp lp) ?_ (fun er he=>?_)
   |refine a1c ea_spec ?_ (fun er he=>?_)
   |refine a1c eb_sig ?_ (fun er he=>?_)
   |refine a1c ec_ty ?_ (fun er he=>?_)
   |refine a1d (fun h=>?_) (fun h=>?_)))
theorem j2U {k:Int} {o:Int} {n:ByteArray} {a:List (List AV)} {b:List (List AV)} {c:List (List AV)} (hn:n.size<c1j) (ea_ty:∃er,er≠4∧evp a1m [.slice 4 a .no,.func (.func a1G) [] []] .none []=some ⟨oc er,.none,[]⟩) (eb_con:∃er,er≠4∧evp a1Q [.slice 2 b .no,.func (.func b1C) [] []] .none []=some ⟨oc er,.none,[]⟩) (ec_sig:∃er,er≠4∧evp a1w [.slice 5 c .no,.func (.func b1b) [] []] .none []=some ⟨oc er,.none,[]⟩):∃er,er≠4∧evp b1I [.agg [vI k,vI o,vS n,.slice 4 a .no,.slice 2 b .no,.slice 5 c .no]] .none []=some ⟨oc er,.none,[]⟩:=by
 have w3:((t1u k o n a b c).K ⟨tm2 107 [(1,(.ref [(vI (k)),(vI (o)),(vS (n)),(.slice 4 (a) .no),(.slice 2 (b) .no),(.slice 5 (c) .no)]))],lm2 107 [],⟨[],[],.none,0⟩⟩).wp Pg cfg0 evp [] (fun r=>∃er,er≠4∧r=⟨oc er,.none,[]⟩):=a1j (x1h k o n a b c) (by
  repeat' first
   |exact b1A
   |exact a1A (by decide)
   |exact a1A (by assumption)
   |refine a1u ?_
   |refine a1h ?_
   |refine a1s ?_
   |refine a1c (d1j _) ?_ (fun er he=>?_)
   |refine a1c (b1G _ _ _) ?_ (fun er he=>?_)
   |refine b1h (fun i0 j0 k0=>?_)
   |refine a1c (c1c hn) ?_ (fun er he=>?_)
   |refine a1c (b1K hn) ?_ (fun er he=>?_)
   |refine a1n (d1s hn) (fun b=>?_)
   |refine a1c ea_ty ?_ (fun er he=>?_)
   |refine a1c eb_con ?_ (fun er he=>?_)
   |refine a1c ec_sig ?_ (fun er he=>?_)
   |refine a1d (fun h=>?_) (fun h=>?_))
 have w2:((o1z k o n a b c).K ⟨tm2 107 [(1,(.ref [(vI (k)),(vI (o)),(vS (n)),(.slice 4 (a) .no),(.slice 2 (b) .no),(.slice 5 (c) .no)]))],lm2 107 [],⟨[],[],.none,0⟩⟩).wp Pg cfg0 evp [] (fun r=>∃er,er≠4∧r=⟨oc er,.none,[]⟩):=a1j (x1g k o n a b c) (by
  repeat' first
   |exact b1A
   |exact a1A (by decide)
   |exact a1A (by assumption)
   |exact a1e (w3)
   |refine a1u ?_
   |refine a1h ?_
   |refine a1s ?_
   |refine a1c (d1j _) ?_ (fun er he=>?_)
   |refine a1c (b1G _ _ _) ?_ (fun er he=>?_)
   |refine b1h (fun i0 j0 k0=>?_)
   |refine a1c (c1c hn) ?_ (fun er he=>?_)
   |refine a1c (b1K hn) ?_ (fun er he=>?_)
   |refine a1n (d1s hn) (fun b=>?_)
   |refine a1c ea_ty ?_ (fun er he=>?_)
   |refine a1c eb_con ?_ (fun er he=>?_)
   |refine a1c ec_sig ?_ (fun er he=>?_)
   |refine a1d (fun h=>?_) (fun h=>?_))
 have w1:((y1s k o n a b c).K ⟨tm2 107 [(1,(.ref [(vI (k)),(vI (o)),(vS (n)),(.slice 4 (a) .no),(.slice 2 (b) .no),(.slice 5 (c) .no)]))],lm2 107 [],⟨[],[],.none,0⟩⟩).wp Pg cfg0 evp [] (fun r=>∃er,er≠4∧r=⟨oc er,.none,[]⟩):=a1j (x1f k o n a b c) (by
  repeat' first
   |exact b1A
   |exact a1A (by decide)
   |exact a1A (by assumption)
   |exact a1e (w3)
   |exact a1e (w2)
   |refine a1u ?_
   |refine a1h ?_
   |refine a1s ?_
   |refine a1c (d1j _) ?_ (fun er he=>?_)
   |refine a1c (b1G _ _ _) ?_ (fun er he=>?_)
   |refine b1h (fun i0 j0 k0=>?_)
   |refine a1c (c1c hn) ?_ (fun er he=>?_)
   |refine a1c (b1K hn) ?_ (fun er he=>?_)
   |refine a1n (d1s hn) (fun b=>?_)
   |refine a1c ea_ty ?_ (fun er he=>?_)
   |refine a1c eb_con ?_ (fun er he=>?_)
   |refine a1c ec_sig ?_ (fun er he=>?_)
   |refine a1d (fun h=>?_) (fun h=>?_))
 exact d1N (a1j (d2Y k o n a b c) (by
  repeat' first
   |exact b1A
   |exact a1A (by decide)
   |exact a1A (by assumption)
   |exact a1e (w3)
   |exact a1e (w2)
   |exact a1e (w1)
   |refine a1u ?_
   |refine a1h ?_
   |refine a1s ?_
   |refine a1c (d1j _) ?_ (fun er he=>?_)
   |refine a1c (b1G _ _ _) ?_ (fun er he=>?_)
   |refine b1h (fun i0 j0 k0=>?_)
   |refine a1c (c1c hn) ?_ (fun er he=>?_)
   |refine a1c (b1K hn) ?_ (fun er he=>?_)
   |refine a1n (d1s hn) (fun b=>?_)
   |refine a1c ea_ty ?_ (fun er he=>?_)
   |refine a1c eb_con ?_ (fun er he=>?_)
   |refine a1c ec_sig ?_ (fun er he=>?_)
   |refine a1d (fun h=>?_) (fun h=>?_)))
theorem j2V {k:Int} {o:Int} {n:ByteArray} {p:List (List AV)} {a:List (List AV)} {b:List (List AV)} {c:List (List AV)} {d:List (List AV)} {e:List (List AV)} (hn:n.size<c1j) (hp:Strs p) (lp:p.length<c1j) (ea_ty:∃er,er≠4∧evp a1m [.slice 4 a .no,.func (.func a1G) [] []] .none []=some ⟨oc er,.none,[]⟩) (eb_exp:∃er,er≠4∧evp a1P [.slice 8 b .no,.func (.func b1e) [] []] .none []=some ⟨oc er,.none,[]⟩) (ec_con:∃er,er≠4∧evp a1Q [.slice 2 c .no,.func (.func b1C) [] []] .none []=some ⟨oc er,.none,[]⟩) (ed_mod:∃er,er≠4∧evp a1R [.slice 5 d .no,.func (.func b1w) [] []] .none []=some ⟨oc er,.none,[]⟩) (ee_sig:∃er,er≠4∧evp a1w [.slice 5 e .no,.func (.func b1b) [] []] .none []=some ⟨oc er,.none,[]⟩):∃er,er≠4∧evp b1v [.agg [vI k,vI o,vS n,.slice 1 p .no,.slice 4 a .no,.slice 8 b .no,.slice 2 c .no,.slice 5 d .no,.slice 5 e .no]] .none []=some ⟨oc er,.none,[]⟩:=by
 exact d1N (a1j (d2Z k o n p a b c d e) (by
  repeat' first
   |exact b1A
   |exact a1A (by decide)
   |exact a1A (by assumption)
   |refine a1u ?_
   |refine a1h ?_
   |refine a1s ?_
   |refine a1c (d1j _) ?_ (fun er he=>?_)
   |refine a1c (b1G _ _ _) ?_ (fun er he=>?_)
   |refine b1h (fun i0 j0 k0=>?_)
   |refine a1c (c1c hn) ?_ (fun er he=>?_)
   |refine a1c (b1K hn) ?_ (fun er he=>?_)
   |refine a1n (d1s hn) (fun b=>?_)
   |refine a1c (a1Y hp) ?_ (fun er he=>?_)
   |refine a1c (a1J hp) ?_ (fun er he=>?_)
   |refine a1n (b1L hp) (fun b=>?_)
   |refine a1c (a1Z hp lp) ?_ (fun er he=>?_)
   |refine a1c (a1K hp lp) ?_ (fun er he=>?_)
   |refine a1c ea_ty ?_ (fun er he=>?_)
   |refine a1c eb_exp ?_ (fun er he=>?_)
   |refine a1c ec_con ?_ (fun er he=>?_)
   |refine a1c ed_mod ?_ (fun er he=>?_)
   |refine a1c ee_sig ?_ (fun er he=>?_)
   |refine a1d (fun h=>?_) (fun h=>?_)))
end Go.Proofs.Ck
end

section
/- what the walker does: nodes counted, the greatest depth -/
open Go Go.Eng
namespace Go.Proofs.Ck
set_option linter.unusedVariables false
set_option linter.unusedSimpArgs false
set_option maxRecDepth 100000
def BIG:Nat:=4611686018427387904
def WOk (f:Nat) (arg:List Row→List AV) (ans:AV) (ty:Nat) (N:Nat):Prop:=∀l:List Row,cnts l≤N→(∀r∈l,Has Pg ty r)→∀n d m:Nat,n+cnts l<BIG→d+cnts l<BIG→
 evp f (arg l) .none [[vI n,vI d,vI m]]=some ⟨.ret ans,.none,[[vI (n+cnts l:Nat),vI d,vI (wms m d l:Nat)]]⟩
structure WAll (N:Nat):Prop where
 tys:WOk a1N (fun l=>[.ptr 0 0,.slice 4 (avss l) .no]) (.ptr 0 0) c1g N
 pats:WOk b1S (fun l=>[.ptr 0 0,.slice 5 (avss l) .no]) (.ptr 0 0) c1D N
 exps:WOk b1l (fun l=>[.ptr 0 0,.slice 8 (avss l) .no]) (.ptr 0 0) c1C N
 cons:WOk c1u (fun l=>[.ptr 0 0,.slice 2 (avss l) .no]) (.ptr 0 0) e1k N
 decs:WOk b1T (fun l=>[.ptr 0 0,.slice 9 (avss l) .no]) (.ptr 0 0) c1w N
 mods:WOk c1v (fun l=>[.ptr 0 0,.slice 5 (avss l) .no]) (.ptr 0 0) e1l N
 sigs:WOk b1U (fun l=>[.ptr 0 0,.slice 5 (avss l) .no]) (.ptr 0 0) d1q N
 specs:WOk a1L (fun l=>[.slice 6 (avss l) .no,(.func (.func b1x) [] [(.ref [(.ptr 0 0)])])]) (.tuple []) d1K N
@[irreducible] noncomputable def f2J (rows:List (List AV)) (n d m:Int):KT:=kt0 a1N [.ptr 0 0,.slice 4 rows .no] [[vI n,vI d,vI m]]
@[irreducible] noncomputable def y1h (rows:List (List AV)) (n d m:Int):KT:=kt0 b1S [.ptr 0 0,.slice 5 rows .no] [[vI n,vI d,vI m]]
@[irreducible] noncomputable def y1i (rows:List (List AV)) (n d m:Int):KT:=kt0 b1l [.ptr 0 0,.slice 8 rows .no] [[vI n,vI d,vI m]]
@[irreducible] noncomputable def y1j (rows:List (List AV)) (n d m:Int):KT:=kt0 c1u [.ptr 0 0,.slice 2 rows .no] [[vI n,vI d,vI m]]
@[irreducible] noncomputable def y1k (rows:List (List AV)) (n d m:Int):KT:=kt0 b1T [.ptr 0 0,.slice 9 rows .no] [[vI n,vI d,vI m]]
@[irreducible] noncomputable def y1l (rows:List (List AV)) (n d m:Int):KT:=kt0 c1v [.ptr 0 0,.slice 5 rows .no] [[vI n,vI d,vI m]]
@[irreducible] noncomputable def y1m (rows:List (List AV)) (n d m:Int):KT:=kt0 b1U [.ptr 0 0,.slice 5 rows .no] [[vI n,vI d,vI m]]
@[irreducible] noncomputable def s1P (rows:List (List AV)) (n d m:Int):KT:=kt0 a1L [.slice 6 rows .no,(.func (.func b1x) [] [(.ref [(.ptr 0 0)])])] [[vI n,vI d,vI m]]
theorem d2d (rows:List
 (List AV)) (n:Int) (d:Int) (m:Int) (n':Int) (d':Int) (m':Int) (i:Nat):KT.round Pg cfg0 rs0 kc0 (f2J rows n d m) {tmps:=tm2 16 [(1,AV.func (Fn.func c1F) [] [AV.ref [AV.ptr 0 0]]),(6,AV.slice 4 rows Own.no),(7,vI (↑rows.length:Int)),(8,vI (↑i:Int))],lh:=lm2 16 [],g:={H:=[[vI n',vI d',vI m']],defers:=[],rm:=RM.none,base:=1}}=
 (.branch (decide ((↑i:Int)<(↑rows.length:Int)))
 (.exI fun i1=>
 (.exS fun s=>
 (.exR fun l=>
 (.exR fun l1=>
 (.row (rows) ((↑i:Int)) [(vI (i1)),(vS (s)),(.slice 1 (l) .no),(.slice 4 (l1) .no)]
 (.exI fun i2=>
 (.exI fun i3=>
 (.exI fun i4=>
 (.call a1N [(.ptr 0 0),(.slice 4 (l1) .no)] .none [[(vI (IntKind.i64.wrap (n'+1))),(vI (IntKind.i64.wrap (d'+1))),(vI (if IntKind.i64.wrap (d'+1)>m' then IntKind.i64.wrap (d'+1) else m'))]] ⟨(.ret (.ptr 0 0)),.none,[[(vI (i2)),(vI (i3)),(vI (i4))]]⟩
 (.need true
 (.need true
 (.need true
 (.done ⟨tm2 16 [(1,(.func (.func c1F) [] [(.ref [(.ptr 0 0)])])),(6,(.slice 4 (rows) .no)),(7,(vI ((↑rows.length:Int)))),(8,(vI (IntKind.i64.wrap ((↑i:Int)+1))))],lm2 16 [],⟨[[(vI (i2)),(vI (IntKind.i64.wrap (i3-1))),(vI (i4))]],[],.none,1⟩⟩)))))))))))))
 (.out (.need true
 (.need true
 (.ret ⟨(.ret (.ptr 0 0)),.none,[[(vI (n')),(vI (d')),(vI (m'))]]⟩))))):=by kernel_rfl
theorem z1W (rows:List
 (List AV)) (n:Int) (d:Int) (m:Int) (n':Int) (d':Int) (m':Int) (i:Nat):KT.round Pg cfg0 rs0 kc0 (y1h rows n d m) {tmps:=tm2 16 [(1,AV.func (Fn.func e1M) [] [AV.ref [AV.ptr 0 0]]),(6,AV.slice 5 rows Own.no),(7,vI (↑rows.length:Int)),(8,vI (↑i:Int))],lh:=lm2 16 [],g:={H:=[[vI n',vI d',vI m']],defers:=[],rm:=RM.none,base:=1}}=
 (.branch (decide ((↑i:Int)<(↑rows.length:Int)))
 (.exI fun i1=>
 (.exS fun s=>
 (.exR fun l=>
 (.exI fun i2=>
 (.exR fun l1=>
 (.row (rows) ((↑i:Int)) [(vI (i1)),(vS (s)),(.slice 1 (l) .no),(vI (i2)),(.slice 5 (l1) .no)]
 (.exI fun i3=>
 (.exI fun i4=>
 (.exI fun i5=>
 (.call b1S [(.ptr 0 0),(.slice 5 (l1) .no)] .none [[(vI (IntKind.i64.wrap (n'+1))),(vI (IntKind.i64.wrap (d'+1))),(vI (if IntKind.i64.wrap (d'+1)>m' then IntKind.i64.wrap (d'+1) else m'))]] ⟨(.ret (.ptr 0 0)),.none,[[(vI (i3)),(vI (i4)),(vI (i5))]]⟩
 (.need true
 (.need true
 (.need true
 (.done ⟨tm2 16 [(1,(.func (.func e1M) [] [(.ref [(.ptr 0 0)])])),(6,(.slice 5 (rows) .no)),(7,(vI ((↑rows.length:Int)))),(8,(vI (IntKind.i64.wrap ((↑i:Int)+1))))],lm2 16 [],⟨[[(vI (i3)),(vI (IntKind.i64.wrap (i4-1))),(vI (i5))]],[],.none,1⟩⟩))))))))))))))
 (.out (.need true
 (.need true
 (.ret ⟨(.ret (.ptr 0 0)),.none,[[(vI (n')),(vI (d')),(vI (m'))]]⟩))))):=by kernel_rfl
theorem z1X (rows:List
 (List AV)) (n:Int) (d:Int) (m:Int) (n':Int) (d':Int) (m':Int) (i:Nat):KT.round Pg cfg0 rs0 kc0 (y1i rows n d m) {tmps:=tm2 16 [(1,AV.func (Fn.func c1x) [] [AV.ref [AV.ptr 0 0]]),(6,AV.slice 8 rows Own.no),(7,vI (↑rows.length:Int)),(8,vI (↑i:Int))],lh:=lm2 16 [],g:={H:=[[vI n',vI d',vI m']],defers:=[],rm:=RM.none,base:=1}}=
 (.branch (decide ((↑i:Int)<(↑rows.length:Int)))
 (.exI fun i1=>
 (.exI fun i2=>
 (.exI fun i3=>
 (.exR fun l=>
 (.exR fun l1=>
 (.exR fun l2=>
 (.exR fun l3=>
 (.exR fun l4=>
 (.row (rows) ((↑i:Int)) [(vI (i1)),(vI (i2)),(vI (i3)),(.slice 1 (l) .no),(.slice 5 (l1) .no),(.slice 8 (l2) .no),(.slice 9 (l3) .no),(.slice 4 (l4) .no)]
 (.exI fun i4=>
 (.exI fun i5=>
 (.exI fun i6=>
 (.call b1S [(.ptr 0 0),(.slice 5 (l1) .no)] .none [[(vI (IntKind.i64.wrap (n'+1))),(vI (IntKind.i64.wrap (d'+1))),(vI (if IntKind.i64.wrap (d'+1)>m' then IntKind.i64.wrap (d'+1) else m'))]] ⟨(.ret (.ptr 0 0)),.none,[[(vI (i4)),(vI (i5)),(vI (i6))]]⟩
 (.exI fun i7=>
 (.exI fun i8=>
 (.exI fun i9=>
 (.call b1l [(.ptr 0 0),(.slice 8 (l2) .no)] .none [[(vI (i4)),(vI (i5)),(vI (i6))]] ⟨(.ret (.ptr 0 0)),.none,[[(vI (i7)),(vI (i8)),(vI (i9))]]⟩
 (.exI fun i10=>
 (.exI fun i11=>
 (.exI fun i12=>
 (.call b1T [(.ptr 0 0),(.slice 9 (l3) .no)] .none [[(vI (i7)),(vI (i8)),(vI (i9))]] ⟨(.ret (.ptr 0 0)),.none,[[(vI (i10)),(vI (i11)),(vI (i12))]]⟩
 (.exI fun i13=>
 (.exI fun i14=>
 (.exI fun i15=>
 (.call a1N [(.ptr 0 0),(.slice 4 (l4) .no)] .none [[(vI (i10)),(vI (i11)),(vI (i12))]] ⟨(.ret (.ptr 0 0)),.none,[[(vI (i13)),(vI (i14)),(vI (i15))]]⟩
 (.need true
 (.need true
 (.need true
 (.done ⟨tm2 16 [(1,(.func (.func c1x) [] [(.ref [(.ptr 0 0)])])),(6,(.slice 8 (rows) .no)),(7,(vI ((↑rows.length:Int)))),(8,(vI (IntKind.i64.wrap ((↑i:Int)+1))))],lm2 16 [],⟨[[(vI (i13)),(vI (IntKind.i64.wrap (i14-1))),(vI (i15))]],[],.none,1⟩⟩)))))))))))))))))))))))))))))
 (.out (.need true
 (.need true
 (.ret ⟨(.ret (.ptr 0 0)),.none,[[(vI (n')),(vI (d')),(vI (m'))]]⟩))))):=by kernel_rfl
theorem z1Y (rows:List
 (List AV)) (n:Int) (d:Int) (m:Int) (n':Int) (d':Int) (m':Int) (i:Nat):KT.round Pg cfg0 rs0 kc0 (y1j rows n d m) {tmps:=tm2 16 [(1,AV.func (Fn.func e1O) [] [AV.ref [AV.ptr 0 0]]),(6,AV.slice 2 rows Own.no),(7,vI (↑rows.length:Int)),(8,vI (↑i:Int))],lh:=lm2 16 [],g:={H:=[[vI n',vI d',vI m']],defers:=[],rm:=RM.none,base:=1}}=
 (.branch (decide ((↑i:Int)<(↑rows.length:Int)))
 (.exS fun s=>
 (.exR fun l=>
 (.row (rows) ((↑i:Int)) [(vS (s)),(.slice 4 (l) .no)]
 (.exI fun i1=>
 (.exI fun i2=>
 (.exI fun i3=>
 (.call a1N [(.ptr 0 0),(.slice 4 (l) .no)] .none [[(vI (IntKind.i64.wrap (n'+1))),(vI (IntKind.i64.wrap (d'+1))),(vI (if IntKind.i64.wrap (d'+1)>m' then IntKind.i64.wrap (d'+1) else m'))]] ⟨(.ret (.ptr 0 0)),.none,[[(vI (i1)),(vI (i2)),(vI (i3))]]⟩
 (.need true
 (.need true
 (.need true
 (.done ⟨tm2 16 [(1,(.func (.func e1O) [] [(.ref [(.ptr 0 0)])])),(6,(.slice 2 (rows) .no)),(7,(vI ((↑rows.length:Int)))),(8,(vI (IntKind.i64.wrap ((↑i:Int)+1))))],lm2 16 [],⟨[[(vI (i1)),(vI (IntKind.i64.wrap (i2-1))),(vI (i3))]],[],.none,1⟩⟩)))))))))))
 (.out (.need true
 (.need true
 (.ret ⟨(.ret (.ptr 0 0)),.none,[[(vI (n')),(vI (d')),(vI (m'))]]⟩))))):=by kernel_rfl
theorem z1Z (rows:List
 (List AV)) (n:Int) (d:Int) (m:Int) (n':Int) (d':Int) (m':Int) (i:Nat):KT.round Pg cfg0 rs0 kc0 (y1k rows n d m) {tmps:=tm2 16 [(1,AV.func (Fn.func e1N) [] [AV.ref [AV.ptr 0 0]]),(6,AV.slice 9 rows Own.no),(7,vI (↑rows.length:Int)),(8,vI (↑i:Int))],lh:=lm2 16 [],g:={H:=[[vI n',vI d',vI m']],defers:=[],rm:=RM.none,base:=1}}=
 (.branch (decide ((↑i:Int)<(↑rows.length:Int)))
 (.exI fun i1=>
 (.exI fun i2=>
 (.exS fun s=>
 (.exR fun l=>
 (.exR fun l1=>
 (.exR fun l2=>
 (.exR fun l3=>
 (.exR fun l4=>
 (.exR fun l5=>
 (.row (rows) ((↑i:Int)) [(vI (i1)),(vI (i2)),(vS (s)),(.slice 1 (l) .no),(.slice 4 (l1) .no),(.slice 8 (l2) .no),(.slice 2 (l3) .no),(.slice 5 (l4) .no),(.slice 5 (l5) .no)]
 (.exI fun i3=>
 (.exI fun i4=>
 (.exI fun i5=>
 (.call a1N [(.ptr 0 0),(.slice 4 (l1) .no)] .none [[(vI (IntKind.i64.wrap (n'+1))),(vI (IntKind.i64.wrap (d'+1))),(vI (if IntKind.i64.wrap (d'+1)>m' then IntKind.i64.wrap (d'+1) else m'))]] ⟨(.ret (.ptr 0 0)),.none,[[(vI (i3)),(vI (i4)),(vI (i5))]]⟩
 (.exI fun i6=>
 (.exI fun i7=>
 (.exI fun i8=>
 (.call b1l [(.ptr 0 0),(.slice 8 (l2) .no)] .none [[(vI (i3)),(vI (i4)),(vI (i5))]] ⟨(.ret (.ptr 0 0)),.none,[[(vI (i6)),(vI (i7)),(vI (i8))]]⟩
 (.exI fun i9=>
 (.exI fun i10=>
 (.exI fun i11=>
 (.call c1u [(.ptr 0 0),(.slice 2 (l3) .no)] .none [[(vI (i6)),(vI (i7)),(vI (i8))]] ⟨(.ret (.ptr 0 0)),.none,[[(vI (i9)),(vI (i10)),(vI (i11))]]⟩
 (.exI fun i12=>
 (.exI fun i13=>
 (.exI fun i14=>
 (.call c1v [(.ptr 0 0),(.slice 5 (l4) .no)] .none [[(vI (i9)),(vI (i10)),(vI (i11))]] ⟨(.ret (.ptr 0 0)),.none,[[(vI (i12)),(vI (i13)),(vI (i14))]]⟩
 (.exI fun i15=>
 (.exI fun i16=>
 (.exI fun i17=>
 (.call b1U [(.ptr 0 0),(.slice 5 (l5) .no)] .none [[(vI (i12)),(vI (i13)),(vI (i14))]] ⟨(.ret (.ptr 0 0)),.none,[[(vI (i15)),(vI (i16)),(vI (i17))]]⟩
 (.need true
 (.need true
 (.need true
 (.done ⟨tm2 16 [(1,(.func (.func e1N) [] [(.ref [(.ptr 0 0)])])),(6,(.slice 9 (rows) .no)),(7,(vI ((↑rows.length:Int)))),(8,(vI (IntKind.i64.wrap ((↑i:Int)+1))))],lm2 16 [],⟨[[(vI (i15)),(vI (IntKind.i64.wrap (i16-1))),(vI (i17))]],[],.none,1⟩⟩))))))))))))))))))))))))))))))))))
 (.out (.need true
 (.need true
 (.ret ⟨(.ret (.ptr 0 0)),.none,[[(vI (n')),(vI (d')),(vI (m'))]]⟩))))):=by kernel_rfl
theorem a2a (rows:List
 (List AV)) (n:Int) (d:Int) (m:Int) (n':Int) (d':Int) (m':Int) (i:Nat):KT.round Pg cfg0 rs0 kc0 (y1l rows n d m) {tmps:=tm2 16 [(1,AV.func (Fn.func e1P) [] [AV.ref [AV.ptr 0 0]]),(6,AV.slice 5 rows Own.no),(7,vI (↑rows.length:Int)),(8,vI (↑i:Int))],lh:=lm2 16 [],g:={H:=[[vI n',vI d',vI m']],defers:=[],rm:=RM.none,base:=1}}=
 (.branch (decide ((↑i:Int)<(↑rows.length:Int)))
 (.exI fun i1=>
 (.exR fun l=>
 (.exR fun l1=>
 (.exR fun l2=>
 (.exR fun l3=>
 (.row (rows) ((↑i:Int)) [(vI (i1)),(.slice 1 (l) .no),(.slice 9 (l1) .no),(.slice 5 (l2) .no),(.slice 5 (l3) .no)]
 (.exI fun i2=>
 (.exI fun i3=>
 (.exI fun i4=>
 (.call b1T [(.ptr 0 0),(.slice 9 (l1) .no)] .none [[(vI (IntKind.i64.wrap (n'+1))),(vI (IntKind.i64.wrap (d'+1))),(vI (if IntKind.i64.wrap (d'+1)>m' then IntKind.i64.wrap (d'+1) else m'))]] ⟨(.ret (.ptr 0 0)),.none,[[(vI (i2)),(vI (i3)),(vI (i4))]]⟩
 (.exI fun i5=>
 (.exI fun i6=>
 (.exI fun i7=>
 (.call c1v [(.ptr 0 0),(.slice 5 (l2) .no)] .none [[(vI (i2)),(vI (i3)),(vI (i4))]] ⟨(.ret (.ptr 0 0)),.none,[[(vI (i5)),(vI (i6)),(vI (i7))]]⟩
 (.exI fun i8=>
 (.exI fun i9=>
 (.exI fun i10=>
 (.call b1U [(.ptr 0 0),(.slice 5 (l3) .no)] .none [[(vI (i5)),(vI (i6)),(vI (i7))]] ⟨(.ret (.ptr 0 0)),.none,[[(vI (i8)),(vI (i9)),(vI (i10))]]⟩
 (.need true
 (.need true
 (.need true
 (.done ⟨tm2 16 [(1,(.func (.func e1P) [] [(.ref [(.ptr 0 0)])])),(6,(.slice 5 (rows) .no)),(7,(vI ((↑rows.length:Int)))),(8,(vI (IntKind.i64.wrap ((↑i:Int)+1))))],lm2 16 [],⟨[[(vI (i8)),(vI (IntKind.i64.wrap (i9-1))),(vI (i10))]],[],.none,1⟩⟩))))))))))))))))))))))
 (.out (.need true
 (.need true
 (.ret ⟨(.ret (.ptr 0 0)),.none,[[(vI (n')),(vI (d')),(vI (m'))]]⟩))))):=by kernel_rfl
theorem a2b (rows:List
 (List AV)) (n:Int) (d:Int) (m:Int) (n':Int) (d':Int) (m':Int) (i:Nat):KT.round Pg cfg0 rs0 kc0 (y1m rows n d m) {tmps:=tm2 16 [(1,AV.func (Fn.func e1Q) [] [AV.ref [AV.ptr 0 0]]),(6,AV.slice 5 rows Own.no),(7,vI (↑rows.length:Int)),(8,vI (↑i:Int))],lh:=lm2 16 [],g:={H:=[[vI n',vI d',vI m']],defers:=[],rm:=RM.none,base:=1}}=
 (.branch (decide ((↑i:Int)<(↑rows.length:Int)))
 (.exI fun i1=>
 (.exR fun l=>
 (.exR fun l1=>
 (.exR fun l2=>
 (.exR fun l3=>
 (.row (rows) ((↑i:Int)) [(vI (i1)),(.slice 1 (l) .no),(.slice 6 (l1) .no),(.slice 5 (l2) .no),(.slice 4 (l3) .no)]
 (.exI fun i2=>
 (.exI fun i3=>
 (.exI fun i4=>
 (.call a1L [(.slice 6 (l1) .no),(.func (.func b1x) [] [(.ref [(.ptr 0 0)])])] .none [[(vI (IntKind.i64.wrap (n'+1))),(vI (IntKind.i64.wrap (d'+1))),(vI (if IntKind.i64.wrap (d'+1)>m' then IntKind.i64.wrap (d'+1) else m'))]] ⟨(.ret (.tuple [])),.none,[[(vI (i2)),(vI (i3)),(vI (i4))]]⟩
 (.exI fun i5=>
 (.exI fun i6=>
 (.exI fun i7=>
 (.call b1U [(.ptr 0 0),(.slice 5 (l2) .no)] .none [[(vI (i2)),(vI (i3)),(vI (i4))]] ⟨(.ret (.ptr 0 0)),.none,[[(vI (i5)),(vI (i6)),(vI (i7))]]⟩
 (.exI fun i8=>
 (.exI fun i9=>
 (.exI fun i10=>
 (.call a1N [(.ptr 0 0),(.slice 4 (l3) .no)] .none [[(vI (i5)),(vI (i6)),(vI (i7))]] ⟨(.ret (.ptr 0 0)),.none,[[(vI (i8)),(vI (i9)),(vI (i10))]]⟩
 (.need true
 (.need true
 (.need true
 (.done ⟨tm2 16 [(1,(.func (.func e1Q) [] [(.ref [(.ptr 0 0)])])),(6,(.slice 5 (rows) .no)),(7,(vI ((↑rows.length:Int)))),(8,(vI (IntKind.i64.wrap ((↑i:Int)+1))))],lm2 16 [],⟨[[(vI (i8)),(vI (IntKind.i64.wrap (i9-1))),(vI (i10))]],[],.none,1⟩⟩))))))))))))))))))))))
 (.out (.need true
 (.need true
 (.ret ⟨(.ret (.ptr 0 0)),.none,[[(vI (n')),(vI (d')),(vI (m'))]]⟩))))):=by kernel_rfl
theorem w1Q (rows:List
 (List
 AV)) (n:Int) (d:Int) (m:Int) (n':Int) (d':Int) (m':Int) (i:Nat):KT.round Pg cfg0 rs0 kc0 (s1P rows n d m) {tmps:=tm2 16 [(1,AV.func (Fn.func b1x) [] [AV.ref [AV.ptr 0 0]]),(6,AV.slice 6 rows Own.no),(7,vI (↑rows.length:Int)),(8,vI (↑i:Int))],lh:=lm2 16 [],g:={H:=[[vI n',vI d',vI m']],defers:=[],rm:=RM.none,base:=1}}=
 (.branch (decide ((↑i:Int)<(↑rows.length:Int)))
 (.exI fun i1=>
 (.exI fun i2=>
 (.exS fun s=>
 (.exR fun l=>
 (.exR fun l1=>
 (.exR fun l2=>
 (.row (rows) ((↑i:Int)) [(vI (i1)),(vI (i2)),(vS (s)),(.slice 4 (l) .no),(.slice 2 (l1) .no),(.slice 5 (l2) .no)]
 (.exI fun i3=>
 (.exI fun i4=>
 (.exI fun i5=>
 (.call a1N [(.ptr 0 0),(.slice 4 (l) .no)] .none [[(vI (IntKind.i64.wrap (n'+1))),(vI (IntKind.i64.wrap (d'+1))),(vI (if IntKind.i64.wrap (d'+1)>m' then IntKind.i64.wrap (d'+1) else m'))]] ⟨(.ret (.ptr 0 0)),.none,[[(vI (i3)),(vI (i4)),(vI (i5))]]⟩
 (.exI fun i6=>
 (.exI fun i7=>
 (.exI fun i8=>
 (.call c1u [(.ptr 0 0),(.slice 2 (l1) .no)] .none [[(vI (i3)),(vI (i4)),(vI (i5))]] ⟨(.ret (.ptr 0 0)),.none,[[(vI (i6)),(vI (i7)),(vI (i8))]]⟩
 (.exI fun i9=>
 (.exI fun i10=>
 (.exI fun i11=>
 (.call b1U [(.ptr 0 0),(.slice 5 (l2) .no)] .none [[(vI (i6)),(vI (i7)),(vI (i8))]] ⟨(.ret (.ptr 0 0)),.none,[[(vI (i9)),(vI (i10)),(vI (i11))]]⟩
 (.need true
 (.need true
 (.need true
 (.done ⟨tm2 16 [(1,(.func (.func b1x) [] [(.ref [(.ptr 0 0)])])),(6,(.slice 6 (rows) .no)),(7,(vI ((↑rows.length:Int)))),(8,(vI (IntKind.i64.wrap ((↑i:Int)+1))))],lm2 16 [],⟨[[(vI (i9)),(vI (IntKind.i64.wrap (i10-1))),(vI (i11))]],[],.none,1⟩⟩)))))))))))))))))))))))
 (.out (.need true
 (.ret ⟨(.ret (.tuple [])),.none,[[(vI (n')),(vI (d')),(vI (m'))]]⟩)))):=by kernel_rfl
theorem f2K {rows:List (List AV)} {n d m:Int} {r:CRes} (h:(f2J rows n d m).wp Pg cfg0 evp [] (fun x=>x=r)):evp a1N [.ptr 0 0,.slice 4 rows .no] .none [[vI n,vI d,vI m]]=some r:=by
 delta f2J at h
 exact k1P h
theorem d2e {rows:List (List AV)} {n d m:Int} {r:CRes} (h:(y1h rows n d m).wp Pg cfg0 evp [] (fun x=>x=r)):evp b1S [.ptr 0 0,.slice 5 rows .no] .none [[vI n,vI d,vI m]]=some r:=by
 delta y1h at h
 exact k1P h
theorem d2f {rows:List (List AV)} {n d m:Int} {r:CRes} (h:(y1i rows n d m).wp Pg cfg0 evp [] (fun x=>x=r)):evp b1l [.ptr 0 0,.slice 8 rows .no] .none [[vI n,vI d,vI m]]=some r:=by
 delta y1i at h
 exact k1P h
theorem d2g {rows:List (List AV)} {n d m:Int} {r:CRes} (h:(y1j rows n d m).wp Pg cfg0 evp [] (fun x=>x=r)):evp c1u [.ptr 0 0,.slice 2 rows .no] .none [[vI n,vI d,vI m]]=some r:=by
 delta y1j at h
 exact k1P h
theorem d2h {rows:List (List AV)} {n d m:Int} {r:CRes} (h:(y1k rows n d m).wp Pg cfg0 evp [] (fun x=>x=r)):evp b1T [.ptr 0 0,.slice 9 rows .no] .none [[vI n,vI d,vI m]]=some r:=by
 delta y1k at h
 exact k1P h
theorem d2i {rows:List (List AV)} {n d m:Int} {r:CRes} (h:(y1l rows n d m).wp Pg cfg0 evp [] (fun x=>x=r)):evp c1v [.ptr 0 0,.slice 5 rows .no] .none [[vI n,vI d,vI m]]=some r:=by
 delta y1l at h
 exact k1P h
theorem d2j {rows:List (List AV)} {n d m:Int} {r:CRes} (h:(y1m rows n d m).wp Pg cfg0 evp [] (fun x=>x=r)):evp b1U [.ptr 0 0,.slice 5 rows .no] .none [[vI n,vI d,vI m]]=some r:=by
 delta y1m at h
 exact k1P h
theorem a2c {rows:List (List AV)} {n d m:Int} {r:CRes} (h:(s1P rows n d m).wp Pg cfg0 evp [] (fun x=>x=r)):evp a1L [.slice 6 rows .no,(.func (.func b1x) [] [(.ref [(.ptr 0 0)])])] .none [[vI n,vI d,vI m]]=some r:=by
 delta s1P at h
 exact k1P h
theorem q1q (k:Int) (n:ByteArray) (p:List Row) (a:List Row):cntR [.int .i64 k,.str n,.rows 1 p,.rows 4 a]=cnts a:=by simp [cntR,cntC]
theorem g2J (k:Int) (n:ByteArray) (p:List Row) (a:List Row) (m0 d0:Nat):wmR m0 d0 [.int .i64 k,.str n,.rows 1 p,.rows 4 a]=(wms m0 d0 a):=by simp [wmR,wmC]
theorem s1Q (k:Int) (n:ByteArray) (p:List Row) (m:Int) (a:List Row):cntR [.int .i64 k,.str n,.rows 1 p,.int .i64 m,.rows 5 a]=cnts a:=by simp [cntR,cntC]
theorem h2V (k:Int) (n:ByteArray) (p:List Row) (m:Int) (a:List Row) (m0 d0:Nat):wmR m0 d0 [.int .i64 k,.str n,.rows 1 p,.int .i64 m,.rows 5 a]=(wms m0 d0 a):=by simp [wmR,wmC]
theorem k1A (k:Int) (o:Int) (m:Int) (p:List Row) (a:List Row) (b:List Row) (c:List Row) (d:List Row):cntR [.int .i64 k,.int .i64 o,.int .i64 m,.rows 1 p,.rows 5 a,.rows 8 b,.rows 9 c,.rows 4 d]=cnts a+cnts b+cnts c+cnts d:=by simp [cntR,cntC];omega
theorem d2k (k:Int) (o:Int) (m:Int) (p:List Row) (a:List Row) (b:List Row) (c:List Row) (d:List Row) (m0 d0:Nat):wmR m0 d0 [.int .i64 k,.int .i64 o,.int .i64 m,.rows 1 p,.rows 5 a,.rows 8 b,.rows 9 c,.rows 4 d]=(wms (wms (wms (wms m0 d0 a) d0 b) d0 c) d0 d):=by simp [wmR,wmC]
theorem s1R (n:ByteArray) (a:List Row):cntR [.str n,.rows 4 a]=cnts a:=by simp [cntR,cntC]
theorem h2W (n:ByteArray) (a:List Row) (m0 d0:Nat):wmR m0 d0 [.str n,.rows 4 a]=(wms m0 d0 a):=by simp [wmR,wmC]
theorem m1m (k:Int) (o:Int) (n:ByteArray) (p:List Row) (a:List Row) (b:List Row) (c:List Row) (d:List Row) (e:List Row):cntR [.int .i64 k,.int .i64 o,.str n,.rows 1 p,.rows 4 a,.rows 8 b,.rows 2 c,.rows 5 d,.rows 5 e]=cnts a+cnts b+cnts c+cnts d+cnts e:=by simp [cntR,cntC];omega
theorem h2X (k:Int) (o:Int) (n:ByteArray) (p:List Row) (a:List Row) (b:List Row) (c:List Row) (d:List Row) (e:List Row) (m0 d0:Nat):wmR m0 d0 [.int .i64 k,.int .i64 o,.str n,.rows 1 p,.rows 4 a,.rows 8 b,.rows 2 c,.rows 5 d,.rows 5 e]=(wms (wms (wms (wms (wms m0 d0 a) d0 b) d0 c) d0 d) d0 e):=by simp [wmR,wmC]
theorem s1S (k:Int) (p:List Row) (a:List Row) (b:List Row) (c:List Row):cntR [.int .i64 k,.rows 1 p,.rows 9 a,.rows 5 b,.rows 5 c]=cnts a+cnts b+cnts c:=by simp [cntR,cntC];omega
theorem h2Y (k:Int) (p:List Row) (a:List Row) (b:List Row) (c:List Row) (m0 d0:Nat):wmR m0 d0 [.int .i64 k,.rows 1 p,.rows 9 a,.rows 5 b,.rows 5 c]=(wms (wms (wms m0 d0 a) d0 b) d0 c):=by simp [wmR,wmC]
theorem s1T (k:Int) (p:List Row) (a:List Row) (b:List Row) (c:List Row):cntR [.int .i64 k,.rows 1 p,.rows 6 a,.rows 5 b,.rows 4 c]=cnts a+cnts b+cnts c:=by simp [cntR,cntC];omega
theorem h2Z (k:Int) (p:List Row) (a:List Row) (b:List Row) (c:List Row) (m0 d0:Nat):wmR m0 d0 [.int .i64 k,.rows 1 p,.rows 6 a,.rows 5 b,.rows 4 c]=(wms (wms (wms m0 d0 a) d0 b) d0 c):=by simp [wmR,wmC]
theorem q1r (k:Int) (o:Int) (n:ByteArray) (a:List Row) (b:List Row) (c:List Row):cntR [.int .i64 k,.int .i64 o,.str n,.rows 4 a,.rows 2 b,.rows 5 c]=cnts a+cnts b+cnts c:=by simp [cntR,cntC];omega
theorem f2L (k:Int) (o:Int) (n:ByteArray) (a:List Row) (b:List Row) (c:List Row) (m0 d0:Nat):wmR m0 d0 [.int .i64 k,.int .i64 o,.str n,.rows 4 a,.rows 2 b,.rows 5 c]=(wms (wms (wms m0 d0 a) d0 b) d0 c):=by simp [wmR,wmC]
theorem f2M {N:Nat} (ih:∀M,M<N→WAll M):WOk a1N (fun l=>[.ptr 0 0,.slice 4 (avss l) .no]) (.ptr 0 0) c1g N:=by
 intro l hl ht n d m hn hd
 unfold BIG at hn hd
 refine f2K ?_
 refine q1W (t:=f2J (avss l) n d m) (fun i:Nat=>⟨tm2 16 [(1,(.func (.func c1F) [] [(.ref [(.ptr 0 0)])])),(6,(.slice 4 (avss l) .no)),(7,(vI (avss l).length)),(8,(vI i))],lm2 16 [],⟨[[vI (n+cnts (l.take i):Nat),vI d,vI (wms m d (l.take i):Nat)]],[],.none,1⟩⟩) (fun i=>i≤l.length) (fun i=>l.length-i) 0 (by kernel_rfl) (Nat.zero_le _) ?_
 intro i hi
 refine a1j (d2d (avss l) n d m (n+cnts (l.take i):Nat) d (wms m d (l.take i):Nat) i) ?_
 rw[b1O]
 refine a1d (fun h=>?_) (fun h=>?_)
 ·have h:=of_decide_eq_true h
  obtain⟨r,hr⟩:∃r,l[i]? =some r:=⟨_,List.getElem?_eq_getElem (by omega:i<l.length)⟩
  have hl2:=(List.getElem?_eq_some_iff.1 hr).1
  obtain⟨xk,xn,xp,xa,rfl,t_xp,t_xa⟩:=v1t (ht r (List.mem_of_getElem? hr))
  have e0:=i1p hr
  rw[q1q] at e0
  simp only[oneR] at e0
  have en:n+cnts (l.take (i+1))=n+cnts (l.take i)+1+cnts xa:=by rw[e1x hr,q1q];simp only[oneR];omega
  have em:=g1p (m:=m) (d:=d) hr
  rw[g2J] at em
  rw[b1f (x:=n+cnts (l.take i)) (by omega),b1f (x:=d) (by omega),kmax,b1f (x:=i) (by have:=g1q fun r hr=>i2o (ht r hr);omega)]
  refine⟨xk,xn,avss xp,avss xa,⟨Int.natCast_nonneg i,g1E hr⟩,?_⟩
  refine⟨_,_,_,(ih (cnts xa) (by omega)).tys xa (Nat.le_refl _) t_xa _ _ _ (by unfold BIG;omega) (by unfold BIG;omega),?_⟩
  refine⟨rfl,rfl,rfl,i+1,⟨by omega,by omega⟩,?_⟩
  rw[g1D (x:=d) (by omega),en,em]
 ·have h:=of_decide_eq_false h
  have hil:i=l.length:=by omega
  subst hil
  rw[List.take_length] at *
  exact⟨rfl,rfl,rfl⟩
theorem d2l {N:Nat} (ih:∀M,M<N→WAll M):WOk b1S (fun l=>[.ptr 0 0,.slice 5 (avss l) .no]) (.ptr 0 0) c1D N:=by
 intro l hl ht n d m hn hd
 unfold BIG at hn hd
 refine d2e ?_
 refine q1W (t:=y1h (avss l) n d m) (fun i:Nat=>⟨tm2 16 [(1,(.func (.func e1M) [] [(.ref [(.ptr 0 0)])])),(6,(.slice 5 (avss l) .no)),(7,(vI (avss l).length)),(8,(vI i))],lm2 16 [],⟨[[vI (n+cnts (l.take i):Nat),vI d,vI (wms m d (l.take i):Nat)]],[],.none,1⟩⟩) (fun i=>i≤l.length) (fun i=>l.length-i) 0 (by kernel_rfl) (Nat.zero_le _) ?_
 intro i hi
 refine a1j (z1W (avss l) n d m (n+cnts (l.take i):Nat) d (wms m d (l.take i):Nat) i) ?_
 rw[b1O]
 refine a1d (fun h=>?_) (fun h=>?_)
 ·have h:=of_decide_eq_true h
  obtain⟨r,hr⟩:∃r,l[i]? =some r:=⟨_,List.getElem?_eq_getElem (by omega:i<l.length)⟩
  have hl2:=(List.getElem?_eq_some_iff.1 hr).1
  obtain⟨xk,xn,xp,xm,xa,rfl,t_xp,t_xa⟩:=s1Y (ht r (List.mem_of_getElem? hr))
  have e0:=i1p hr
  rw[s1Q] at e0
  simp only[oneR] at e0
  have en:n+cnts (l.take (i+1))=n+cnts (l.take i)+1+cnts xa:=by rw[e1x hr,s1Q];simp only[oneR];omega
  have em:=g1p (m:=m) (d:=d) hr
  rw[h2V] at em
  rw[b1f (x:=n+cnts (l.take i)) (by omega),b1f (x:=d) (by omega),kmax,b1f (x:=i) (by have:=g1q fun r hr=>g2L (ht r hr);omega)]
  refine⟨xk,xn,avss xp,xm,avss xa,⟨Int.natCast_nonneg i,g1E hr⟩,?_⟩
  refine⟨_,_,_,(ih (cnts xa) (by omega)).pats xa (Nat.le_refl _) t_xa _ _ _ (by unfold BIG;omega) (by unfold BIG;omega),?_⟩
  refine⟨rfl,rfl,rfl,i+1,⟨by omega,by omega⟩,?_⟩
  rw[g1D (x:=d) (by omega),en,em]
 ·have h:=of_decide_eq_false h
  have hil:i=l.length:=by omega
  subst hil
  rw[List.take_length] at *
  exact⟨rfl,rfl,rfl⟩
theorem d2m {N:Nat} (ih:∀M,M<N→WAll M):WOk b1l (fun l=>[.ptr 0 0,.slice 8 (avss l) .no]) (.ptr 0 0) c1C N:=by
 intro l hl ht n d m hn hd
 unfold BIG at hn hd
 refine d2f ?_
 refine q1W (t:=y1i (avss l) n d m) (fun i:Nat=>⟨tm2 16 [(1,(.func (.func c1x) [] [(.ref [(.ptr 0 0)])])),(6,(.slice 8 (avss l) .no)),(7,(vI (avss l).length)),(8,(vI i))],lm2 16 [],⟨[[vI (n+cnts (l.take i):Nat),vI d,vI (wms m d (l.take i):Nat)]],[],.none,1⟩⟩) (fun i=>i≤l.length) (fun i=>l.length-i) 0 (by kernel_rfl) (Nat.zero_le _) ?_
 intro i hi
 refine a1j (z1X (avss l) n d m (n+cnts (l.take i):Nat) d (wms m d (l.take i):Nat) i) ?_
 rw[b1O]
 refine a1d (fun h=>?_) (fun h=>?_)
 ·have h:=of_decide_eq_true h
  obtain⟨r,hr⟩:∃r,l[i]? =some r:=⟨_,List.getElem?_eq_getElem (by omega:i<l.length)⟩
  have hl2:=(List.getElem?_eq_some_iff.1 hr).1
  obtain⟨xk,xo,xm,xp,xa,xb,xc,xd,rfl,t_xp,t_xa,t_xb,t_xc,t_xd⟩:=q1u (ht r (List.mem_of_getElem? hr))
  have e0:=i1p hr
  rw[k1A] at e0
  simp only[oneR] at e0
  have en:n+cnts (l.take (i+1))=n+cnts (l.take i)+1+cnts xa+cnts xb+cnts xc+cnts xd:=by rw[e1x hr,k1A];simp only[oneR];omega
  have em:=g1p (m:=m) (d:=d) hr
  rw[d2k] at em
  rw[b1f (x:=n+cnts (l.take i)) (by omega),b1f (x:=d) (by omega),kmax,b1f (x:=i) (by have:=g1q fun r hr=>d2L (ht r hr);omega)]
  refine⟨xk,xo,xm,avss xp,avss xa,avss xb,avss xc,avss xd,⟨Int.natCast_nonneg i,g1E hr⟩,?_⟩
  refine⟨_,_,_,(ih (cnts xa) (by omega)).pats xa (Nat.le_refl _) t_xa _ _ _ (by unfold BIG;omega) (by unfold BIG;omega),?_⟩
  refine⟨_,_,_,(ih (cnts xb) (by omega)).exps xb (Nat.le_refl _) t_xb _ _ _ (by unfold BIG;omega) (by unfold BIG;omega),?_⟩
  refine⟨_,_,_,(ih (cnts xc) (by omega)).decs xc (Nat.le_refl _) t_xc _ _ _ (by unfold BIG;omega) (by unfold BIG;omega),?_⟩
  refine⟨_,_,_,(ih (cnts xd) (by omega)).tys xd (Nat.le_refl _) t_xd _ _ _ (by unfold BIG;omega) (by unfold BIG;omega),?_⟩
  refine⟨rfl,rfl,rfl,i+1,⟨by omega,by omega⟩,?_⟩
  rw[g1D (x:=d) (by omega),en,em]
 ·have h:=of_decide_eq_false h
  have hil:i=l.length:=by omega
  subst hil
  rw[List.take_length] at *
  exact⟨rfl,rfl,rfl⟩
theorem d2n {N:Nat} (ih:∀M,M<N→WAll M):WOk c1u (fun l=>[.ptr 0 0,.slice 2 (avss l) .no]) (.ptr 0 0) e1k N:=by
 intro l hl ht n d m hn hd
 unfold BIG at hn hd
 refine d2g ?_
 refine q1W (t:=y1j (avss l) n d m) (fun i:Nat=>⟨tm2 16 [(1,(.func (.func e1O) [] [(.ref [(.ptr 0 0)])])),(6,(.slice 2 (avss l) .no)),(7,(vI (avss l).length)),(8,(vI i))],lm2 16 [],⟨[[vI (n+cnts (l.take i):Nat),vI d,vI (wms m d (l.take i):Nat)]],[],.none,1⟩⟩) (fun i=>i≤l.length) (fun i=>l.length-i) 0 (by kernel_rfl) (Nat.zero_le _) ?_
 intro i hi
 refine a1j (z1Y (avss l) n d m (n+cnts (l.take i):Nat) d (wms m d (l.take i):Nat) i) ?_
 rw[b1O]
 refine a1d (fun h=>?_) (fun h=>?_)
 ·have h:=of_decide_eq_true h
  obtain⟨r,hr⟩:∃r,l[i]? =some r:=⟨_,List.getElem?_eq_getElem (by omega:i<l.length)⟩
  have hl2:=(List.getElem?_eq_some_iff.1 hr).1
  obtain⟨xn,xa,rfl,t_xa⟩:=s1Z (ht r (List.mem_of_getElem? hr))
  have e0:=i1p hr
  rw[s1R] at e0
  simp only[oneR] at e0
  have en:n+cnts (l.take (i+1))=n+cnts (l.take i)+1+cnts xa:=by rw[e1x hr,s1R];simp only[oneR];omega
  have em:=g1p (m:=m) (d:=d) hr
  rw[h2W] at em
  rw[b1f (x:=n+cnts (l.take i)) (by omega),b1f (x:=d) (by omega),kmax,b1f (x:=i) (by have:=g1q fun r hr=>g2M (ht r hr);omega)]
  refine⟨xn,avss xa,⟨Int.natCast_nonneg i,g1E hr⟩,?_⟩
  refine⟨_,_,_,(ih (cnts xa) (by omega)).tys xa (Nat.le_refl _) t_xa _ _ _ (by unfold BIG;omega) (by unfold BIG;omega),?_⟩
  refine⟨rfl,rfl,rfl,i+1,⟨by omega,by omega⟩,?_⟩
  rw[g1D (x:=d) (by omega),en,em]
 ·have h:=of_decide_eq_false h
  have hil:i=l.length:=by omega
  subst hil
  rw[List.take_length] at *
  exact⟨rfl,rfl,rfl⟩
theorem d2o {N:Nat} (ih:∀M,M<N→WAll M):WOk b1T (fun l=>[.ptr 0 0,.slice 9 (avss l) .no]) (.ptr 0 0) c1w N:=by
 intro l hl ht n d m hn hd
 unfold BIG at hn hd
 refine d2h ?_
 refine q1W (t:=y1k (avss l) n d m) (fun i:Nat=>⟨tm2 16 [(1,(.func (.func e1N) [] [(.ref [(.ptr 0 0)])])),(6,(.slice 9 (avss l) .no)),(7,(vI (avss l).length)),(8,(vI i))],lm2 16 [],⟨[[vI (n+cnts (l.take i):Nat),vI d,vI (wms m d (l.take i):Nat)]],[],.none,1⟩⟩) (fun i=>i≤l.length) (fun i=>l.length-i) 0 (by kernel_rfl) (Nat.zero_le _) ?_
 intro i hi
 refine a1j (z1Z (avss l) n d m (n+cnts (l.take i):Nat) d (wms m d (l.take i):Nat) i) ?_
 rw[b1O]
 refine a1d (fun h=>?_) (fun h=>?_)
 ·have h:=of_decide_eq_true h
  obtain⟨r,hr⟩:∃r,l[i]? =some r:=⟨_,List.getElem?_eq_getElem (by omega:i<l.length)⟩
  have hl2:=(List.getElem?_eq_some_iff.1 hr).1
  obtain⟨xk,xo,xn,xp,xa,xb,xc,xd,xe,rfl,t_xp,t_xa,t_xb,t_xc,t_xd,t_xe⟩:=n1f (ht r (List.mem_of_getElem? hr))
  have e0:=i1p hr
  rw[m1m] at e0
  simp only[oneR] at e0
  have en:n+cnts (l.take (i+1))=n+cnts (l.take i)+1+cnts xa+cnts xb+cnts xc+cnts xd+cnts xe:=by rw[e1x hr,m1m];simp only[oneR];omega
  have em:=g1p (m:=m) (d:=d) hr
  rw[h2X] at em
  rw[b1f (x:=n+cnts (l.take i)) (by omega),b1f (x:=d) (by omega),kmax,b1f (x:=i) (by have:=g1q fun r hr=>d2M (ht r hr);omega)]
  refine⟨xk,xo,xn,avss xp,avss xa,avss xb,avss xc,avss xd,avss xe,⟨Int.natCast_nonneg i,g1E hr⟩,?_⟩
  refine⟨_,_,_,(ih (cnts xa) (by omega)).tys xa (Nat.le_refl _) t_xa _ _ _ (by unfold BIG;omega) (by unfold BIG;omega),?_⟩
  refine⟨_,_,_,(ih (cnts xb) (by omega)).exps xb (Nat.le_refl _) t_xb _ _ _ (by unfold BIG;omega) (by unfold BIG;omega),?_⟩
  refine⟨_,_,_,(ih (cnts xc) (by omega)).cons xc (Nat.le_refl _) t_xc _ _ _ (by unfold BIG;omega) (by unfold BIG;omega),?_⟩
  refine⟨_,_,_,(ih (cnts xd) (by omega)).mods xd (Nat.le_refl _) t_xd _ _ _ (by unfold BIG;omega) (by unfold BIG;omega),?_⟩
  refine⟨_,_,_,(ih (cnts xe) (by omega)).sigs xe (Nat.le_refl _) t_xe _ _ _ (by unfold BIG;omega) (by unfold BIG;omega),?_⟩
  refine⟨rfl,rfl,rfl,i+1,⟨by omega,by omega⟩,?_⟩
  rw[g1D (x:=d) (by omega),en,em]
 ·have h:=of_decide_eq_false h
  have hil:i=l.length:=by omega
  subst hil
  rw[List.take_length] at *
  exact⟨rfl,rfl,rfl⟩
theorem d2p {N:Nat} (ih:∀M,M<N→WAll M):WOk c1v (fun l=>[.ptr 0 0,.slice 5 (avss l) .no]) (.ptr 0 0) e1l N:=by
 intro l hl ht n d m hn hd
 unfold BIG at hn hd
 refine d2i ?_
 refine q1W (t:=y1l (avss l) n d m) (fun i:Nat=>⟨tm2 16 [(1,(.func (.func e1P) [] [(.ref [(.ptr 0 0)])])),(6,(.slice 5 (avss l) .no)),(7,(vI (avss l).length)),(8,(vI i))],lm2 16 [],⟨[[vI (n+cnts (l.take i):Nat),vI d,vI (wms m d (l.take i):Nat)]],[],.none,1⟩⟩) (fun i=>i≤l.length) (fun i=>l.length-i) 0 (by kernel_rfl) (Nat.zero_le _) ?_
 intro i hi
 refine a1j (a2a (avss l) n d m (n+cnts (l.take i):Nat) d (wms m d (l.take i):Nat) i) ?_
 rw[b1O]
 refine a1d (fun h=>?_) (fun h=>?_)
 ·have h:=of_decide_eq_true h
  obtain⟨r,hr⟩:∃r,l[i]? =some r:=⟨_,List.getElem?_eq_getElem (by omega:i<l.length)⟩
  have hl2:=(List.getElem?_eq_some_iff.1 hr).1
  obtain⟨xk,xp,xa,xb,xc,rfl,t_xp,t_xa,t_xb,t_xc⟩:=t1a (ht r (List.mem_of_getElem? hr))
  have e0:=i1p hr
  rw[s1S] at e0
  simp only[oneR] at e0
  have en:n+cnts (l.take (i+1))=n+cnts (l.take i)+1+cnts xa+cnts xb+cnts xc:=by rw[e1x hr,s1S];simp only[oneR];omega
  have em:=g1p (m:=m) (d:=d) hr
  rw[h2Y] at em
  rw[b1f (x:=n+cnts (l.take i)) (by omega),b1f (x:=d) (by omega),kmax,b1f (x:=i) (by have:=g1q fun r hr=>g2N (ht r hr);omega)]
  refine⟨xk,avss xp,avss xa,avss xb,avss xc,⟨Int.natCast_nonneg i,g1E hr⟩,?_⟩
  refine⟨_,_,_,(ih (cnts xa) (by omega)).decs xa (Nat.le_refl _) t_xa _ _ _ (by unfold BIG;omega) (by unfold BIG;omega),?_⟩
  refine⟨_,_,_,(ih (cnts xb) (by omega)).mods xb (Nat.le_refl _) t_xb _ _ _ (by unfold BIG;omega) (by unfold BIG;omega),?_⟩
  refine⟨_,_,_,(ih (cnts xc) (by omega)).sigs xc (Nat.le_refl _) t_xc _ _ _ (by unfold BIG;omega) (by unfold BIG;omega),?_⟩
  refine⟨rfl,rfl,rfl,i+1,⟨by omega,by omega⟩,?_⟩
  rw[g1D (x:=d) (by omega),en,em]
 ·have h:=of_decide_eq_false h
  have hil:i=l.length:=by omega
  subst hil
  rw[List.take_length] at *
  exact⟨rfl,rfl,rfl⟩
theorem d2q {N:Nat} (ih:∀M,M<N→WAll M):WOk b1U (fun l=>[.ptr 0 0,.slice 5 (avss l) .no]) (.ptr 0 0) d1q N:=by
 intro l hl ht n d m hn hd
 unfold BIG at hn hd
 refine d2j ?_
 refine q1W (t:=y1m (avss l) n d m) (fun i:Nat=>⟨tm2 16 [(1,(.func (.func e1Q) [] [(.ref [(.ptr 0 0)])])),(6,(.slice 5 (avss l) .no)),(7,(vI (avss l).length)),(8,(vI i))],lm2 16 [],⟨[[vI (n+cnts (l.take i):Nat),vI d,vI (wms m d (l.take i):Nat)]],[],.none,1⟩⟩) (fun i=>i≤l.length) (fun i=>l.length-i) 0 (by kernel_rfl) (Nat.zero_le _) ?_
 intro i hi
 refine a1j (a2b (avss l) n d m (n+cnts (l.take i):Nat) d (wms m d (l.take i):Nat) i) ?_
 rw[b1O]
 refine a1d (fun h=>?_) (fun h=>?_)
 ·have h:=of_decide_eq_true h
  obtain⟨r,hr⟩:∃r,l[i]? =some r:=⟨_,List.getElem?_eq_getElem (by omega:i<l.length)⟩
  have hl2:=(List.getElem?_eq_some_iff.1 hr).1
  obtain⟨xk,xp,xa,xb,xc,rfl,t_xp,t_xa,t_xb,t_xc⟩:=t1b (ht r (List.mem_of_getElem? hr))
  have e0:=i1p hr
  rw[s1T] at e0
  simp only[oneR] at e0
  have en:n+cnts (l.take (i+1))=n+cnts (l.take i)+1+cnts xa+cnts xb+cnts xc:=by rw[e1x hr,s1T];simp only[oneR];omega
  have em:=g1p (m:=m) (d:=d) hr
  rw[h2Z] at em
  rw[b1f (x:=n+cnts (l.take i)) (by omega),b1f (x:=d) (by omega),kmax,b1f (x:=i) (by have:=g1q fun r hr=>g2O (ht r hr);omega)]
  refine⟨xk,avss xp,avss xa,avss xb,avss xc,⟨Int.natCast_nonneg i,g1E hr⟩,?_⟩
  refine⟨_,_,_,(ih (cnts xa) (by omega)).specs xa (Nat.le_refl _) t_xa _ _ _ (by unfold BIG;omega) (by unfold BIG;omega),?_⟩
  refine⟨_,_,_,(ih (cnts xb) (by omega)).sigs xb (Nat.le_refl _) t_xb _ _ _ (by unfold BIG;omega) (by unfold BIG;omega),?_⟩
  refine⟨_,_,_,(ih (cnts xc) (by omega)).tys xc (Nat.le_refl _) t_xc _ _ _ (by unfold BIG;omega) (by unfold BIG;omega),?_⟩
  refine⟨rfl,rfl,rfl,i+1,⟨by omega,by omega⟩,?_⟩
  rw[g1D (x:=d) (by omega),en,em]
 ·have h:=of_decide_eq_false h
  have hil:i=l.length:=by omega
  subst hil
  rw[List.take_length] at *
  exact⟨rfl,rfl,rfl⟩
theorem a2d {N:Nat} (ih:∀M,M<N→WAll M):WOk a1L (fun l=>[.slice 6 (avss l) .no,(.func (.func b1x) [] [(.ref [(.ptr 0 0)])])]) (.tuple []) d1K N:=by
 intro l hl ht n d m hn hd
 unfold BIG at hn hd
 refine a2c ?_
 refine q1W (t:=s1P (avss l) n d m) (fun i:Nat=>⟨tm2 16 [(1,(.func (.func b1x) [] [(.ref [(.ptr 0 0)])])),(6,(.slice 6 (avss l) .no)),(7,(vI (avss l).length)),(8,(vI i))],lm2 16 [],⟨[[vI (n+cnts (l.take i):Nat),vI d,vI (wms m d (l.take i):Nat)]],[],.none,1⟩⟩) (fun i=>i≤l.length) (fun i=>l.length-i) 0 (by kernel_rfl) (Nat.zero_le _) ?_
 intro i hi
 refine a1j (w1Q (avss l) n d m (n+cnts (l.take i):Nat) d (wms m d (l.take i):Nat) i) ?_
 rw[b1O]
 refine a1d (fun h=>?_) (fun h=>?_)
 ·have h:=of_decide_eq_true h
  obtain⟨r,hr⟩:∃r,l[i]? =some r:=⟨_,List.getElem?_eq_getElem (by omega:i<l.length)⟩
  have hl2:=(List.getElem?_eq_some_iff.1 hr).1
  obtain⟨xk,xo,xn,xa,xb,xc,rfl,t_xa,t_xb,t_xc⟩:=o1y (ht r (List.mem_of_getElem? hr))
  have e0:=i1p hr
  rw[q1r] at e0
  simp only[oneR] at e0
  have en:n+cnts (l.take (i+1))=n+cnts (l.take i)+1+cnts xa+cnts xb+cnts xc:=by rw[e1x hr,q1r];simp only[oneR];omega
  have em:=g1p (m:=m) (d:=d) hr
  rw[f2L] at em
  rw[b1f (x:=n+cnts (l.take i)) (by omega),b1f (x:=d) (by omega),kmax,b1f (x:=i) (by have:=g1q fun r hr=>d2N (ht r hr);omega)]
  refine⟨xk,xo,xn,avss xa,avss xb,avss xc,⟨Int.natCast_nonneg i,g1E hr⟩,?_⟩
  refine⟨_,_,_,(ih (cnts xa) (by omega)).tys xa (Nat.le_refl _) t_xa _ _ _ (by unfold BIG;omega) (by unfold BIG;omega),?_⟩
  refine⟨_,_,_,(ih (cnts xb) (by omega)).cons xb (Nat.le_refl _) t_xb _ _ _ (by unfold BIG;omega) (by unfold BIG;omega),?_⟩
  refine⟨_,_,_,(ih (cnts xc) (by omega)).sigs xc (Nat.le_refl _) t_xc _ _ _ (by unfold BIG;omega) (by unfold BIG;omega),?_⟩
  refine⟨rfl,rfl,rfl,i+1,⟨by omega,by omega⟩,?_⟩
  rw[g1D (x:=d) (by omega),en,em]
 ·have h:=of_decide_eq_false h
  have hil:i=l.length:=by omega
  subst hil
  rw[List.take_length] at *
  exact⟨rfl,rfl⟩
theorem y1n:∀N,WAll N:=by
 intro N
 induction N using Nat.strongRecOn with
 |_ N ih=>exact⟨f2M ih,d2l ih,d2m ih,d2n ih,d2o ih,d2p ih,d2q ih,a2d ih⟩
end Go.Proofs.Ck
end
