/- Texts of this proof folded into one: T4c T2. -/
import Derived.Test.YtmdjdcnabbapgaaGreatDoorW17
import Derived.Test.YtmdjdcnabbapgaaGreatDoorW16
section
/- the checks of nodes: each ends well or with an error -/
open Go Go.Eng
namespace Go.Proofs.Ck
set_option linter.unusedVariables false
set_option linter.unusedSimpArgs false
set_option maxRecDepth 100000
section
variable {QD:List (St→Prop)} {QR:CRes→Prop}
theorem b1e {k:Int} {K:Int→Int→Int→KT} (h:∀a b c,(K a b c).wp Pg cfg0 evp QD QR):
  (KT.exI fun a=>.exI fun b=>.exI fun c=>.call f1l [vI k] .none [] ⟨.ret (.tuple [vI a,vI b,vI c]),.none,[]⟩ (K a b c)).wp Pg cfg0 evp QD QR:=by
 obtain⟨a,b,c,h1⟩:=h2T k
 exact⟨a,b,c,h1,h a b c⟩
end
theorem h2X {l:List (List AV)} (hl:l.length<c1h) (hf:∀r∈l,∃(k:Int) (n:ByteArray) (p:List (List AV)) (a:List (List AV)),r=[vI k,vS n,.slice 1 p .no,.slice 4 a .no]∧∃e',e'≠4∧evp a1F [.agg [vI k,vS n,.slice 1 p .no,.slice 4 a .no]] .none []=some ⟨oc e',.none,[]⟩):∃e,e≠4∧evp a1m [.slice 4 l .no,.func (.func a1F) [] []] .none []=some ⟨oc e,.none,[]⟩:=by
 unfold c1h at hl
 refine d1K ?_
 have key:(l1s l).wp Pg cfg0 evp [] (fun r=>∃e,e≠4∧r=⟨oc e,.none,[]⟩):=by
  refine m1q (fun i:Nat=>⟨tm2 16 [(1,(.func (.func a1F) [] [])),(6,(.slice 4 (l) .no)),(7,(vI ((↑l.length:Int)))),(8,(vI i))],lm2 16 [],⟨[],[],.none,0⟩⟩) (fun i=>i≤l.length) (fun i=>l.length-i) 0 (by kernel_rfl) (Nat.zero_le _) ?_
  intro i hi
  refine a1j (q1p l i) ?_
  refine a1d (fun h=>?_) (fun h=>?_)
  ·have h:=of_decide_eq_true h
   obtain⟨k,n,p,a,h1,hx⟩:=hf l[i] (List.getElem_mem (by omega))
   have h2:l[i]? =some [vI k,vS n,.slice 1 p .no,.slice 4 a .no]:=by rw[List.getElem?_eq_getElem (by omega),h1]
   rw[a1Z (x:=i) (by omega)]
   refine⟨k,n,p,a,⟨Int.natCast_nonneg i,h2⟩,a1c hx ?_ (fun er he=>?_)⟩
   ·exact a1e ⟨i+1,⟨by omega,by omega⟩,rfl⟩
   ·exact a1h (a1u (a1z he))
  ·exact a1h (a1u b1w)
 have hk:kt2 a1m [.slice 4 l .no,.func (.func a1F) [] []] []=l1s l:=by kernel_rfl
 exact a1j hk key
theorem d2g {l:List (List AV)} (hl:l.length<c1h) (hf:∀r∈l,∃(k:Int) (n:ByteArray) (p:List (List AV)) (m:Int) (a:List (List AV)),r=[vI k,vS n,.slice 1 p .no,vI m,.slice 5 a .no]∧∃e',e'≠4∧evp b1n [.agg [vI k,vS n,.slice 1 p .no,vI m,.slice 5 a .no]] .none []=some ⟨oc e',.none,[]⟩):∃e,e≠4∧evp a1S [.slice 5 l .no,.func (.func b1n) [] []] .none []=some ⟨oc e,.none,[]⟩:=by
 unfold c1h at hl
 refine d1K ?_
 have key:(j1t l).wp Pg cfg0 evp [] (fun r=>∃e,e≠4∧r=⟨oc e,.none,[]⟩):=by
  refine m1q (fun i:Nat=>⟨tm2 16 [(1,(.func (.func b1n) [] [])),(6,(.slice 5 (l) .no)),(7,(vI ((↑l.length:Int)))),(8,(vI i))],lm2 16 [],⟨[],[],.none,0⟩⟩) (fun i=>i≤l.length) (fun i=>l.length-i) 0 (by kernel_rfl) (Nat.zero_le _) ?_
  intro i hi
  refine a1j (n1f l i) ?_
  refine a1d (fun h=>?_) (fun h=>?_)
  ·have h:=of_decide_eq_true h
   obtain⟨k,n,p,m,a,h1,hx⟩:=hf l[i] (List.getElem_mem (by omega))
   have h2:l[i]? =some [vI k,vS n,.slice 1 p .no,vI m,.slice 5 a .no]:=by rw[List.getElem?_eq_getElem (by omega),h1]
   rw[a1Z (x:=i) (by omega)]
   refine⟨k,n,p,m,a,⟨Int.natCast_nonneg i,h2⟩,a1c hx ?_ (fun er he=>?_)⟩
   ·exact a1e ⟨i+1,⟨by omega,by omega⟩,rfl⟩
   ·exact a1h (a1u (a1z he))
  ·exact a1h (a1u b1w)
 have hk:kt2 a1S [.slice 5 l .no,.func (.func b1n) [] []] []=j1t l:=by kernel_rfl
 exact a1j hk key
theorem d2h {l:List (List AV)} (hl:l.length<c1h) (hf:∀r∈l,∃(k:Int) (o:Int) (m:Int) (p:List (List AV)) (a:List (List AV)) (b:List (List AV)) (c:List (List AV)) (d:List (List AV)),r=[vI k,vI o,vI m,.slice 1 p .no,.slice 5 a .no,.slice 8 b .no,.slice 9 c .no,.slice 4 d .no]∧∃e',e'≠4∧evp b1c [.agg [vI k,vI o,vI m,.slice 1 p .no,.slice 5 a .no,.slice 8 b .no,.slice 9 c .no,.slice 4 d .no]] .none []=some ⟨oc e',.none,[]⟩):∃e,e≠4∧evp a1N [.slice 8 l .no,.func (.func b1c) [] []] .none []=some ⟨oc e,.none,[]⟩:=by
 unfold c1h at hl
 refine d1K ?_
 have key:(j1u l).wp Pg cfg0 evp [] (fun r=>∃e,e≠4∧r=⟨oc e,.none,[]⟩):=by
  refine m1q (fun i:Nat=>⟨tm2 16 [(1,(.func (.func b1c) [] [])),(6,(.slice 8 (l) .no)),(7,(vI ((↑l.length:Int)))),(8,(vI i))],lm2 16 [],⟨[],[],.none,0⟩⟩) (fun i=>i≤l.length) (fun i=>l.length-i) 0 (by kernel_rfl) (Nat.zero_le _) ?_
  intro i hi
  refine a1j (n1g l i) ?_
  refine a1d (fun h=>?_) (fun h=>?_)
  ·have h:=of_decide_eq_true h
   obtain⟨k,o,m,p,a,b,c,d,h1,hx⟩:=hf l[i] (List.getElem_mem (by omega))
   have h2:l[i]? =some [vI k,vI o,vI m,.slice 1 p .no,.slice 5 a .no,.slice 8 b .no,.slice 9 c .no,.slice 4 d .no]:=by rw[List.getElem?_eq_getElem (by omega),h1]
   rw[a1Z (x:=i) (by omega)]
   refine⟨k,o,m,p,a,b,c,d,⟨Int.natCast_nonneg i,h2⟩,a1c hx ?_ (fun er he=>?_)⟩
   ·exact a1e ⟨i+1,⟨by omega,by omega⟩,rfl⟩
   ·exact a1h (a1u (a1z he))
  ·exact a1h (a1u b1w)
 have hk:kt2 a1N [.slice 8 l .no,.func (.func b1c) [] []] []=j1u l:=by kernel_rfl
 exact a1j hk key
theorem d2i {l:List (List AV)} (hl:l.length<c1h) (hf:∀r∈l,∃(n:ByteArray) (a:List (List AV)),r=[vS n,.slice 4 a .no]∧∃e',e'≠4∧evp b1y [.agg [vS n,.slice 4 a .no]] .none []=some ⟨oc e',.none,[]⟩):∃e,e≠4∧evp a1O [.slice 2 l .no,.func (.func b1y) [] []] .none []=some ⟨oc e,.none,[]⟩:=by
 unfold c1h at hl
 refine d1K ?_
 have key:(j1v l).wp Pg cfg0 evp [] (fun r=>∃e,e≠4∧r=⟨oc e,.none,[]⟩):=by
  refine m1q (fun i:Nat=>⟨tm2 16 [(1,(.func (.func b1y) [] [])),(6,(.slice 2 (l) .no)),(7,(vI ((↑l.length:Int)))),(8,(vI i))],lm2 16 [],⟨[],[],.none,0⟩⟩) (fun i=>i≤l.length) (fun i=>l.length-i) 0 (by kernel_rfl) (Nat.zero_le _) ?_
  intro i hi
  refine a1j (n1h l i) ?_
  refine a1d (fun h=>?_) (fun h=>?_)
  ·have h:=of_decide_eq_true h
   obtain⟨n,a,h1,hx⟩:=hf l[i] (List.getElem_mem (by omega))
   have h2:l[i]? =some [vS n,.slice 4 a .no]:=by rw[List.getElem?_eq_getElem (by omega),h1]
   rw[a1Z (x:=i) (by omega)]
   refine⟨n,a,⟨Int.natCast_nonneg i,h2⟩,a1c hx ?_ (fun er he=>?_)⟩
   ·exact a1e ⟨i+1,⟨by omega,by omega⟩,rfl⟩
   ·exact a1h (a1u (a1z he))
  ·exact a1h (a1u b1w)
 have hk:kt2 a1O [.slice 2 l .no,.func (.func b1y) [] []] []=j1v l:=by kernel_rfl
 exact a1j hk key
theorem d2j {l:List (List AV)} (hl:l.length<c1h) (hf:∀r∈l,∃(k:Int) (o:Int) (n:ByteArray) (p:List (List AV)) (a:List (List AV)) (b:List (List AV)) (c:List (List AV)) (d:List (List AV)) (e:List (List AV)),r=[vI k,vI o,vS n,.slice 1 p .no,.slice 4 a .no,.slice 8 b .no,.slice 2 c .no,.slice 5 d .no,.slice 5 e .no]∧∃e',e'≠4∧evp b1x [.agg [vI k,vI o,vS n,.slice 1 p .no,.slice 4 a .no,.slice 8 b .no,.slice 2 c .no,.slice 5 d .no,.slice 5 e .no]] .none []=some ⟨oc e',.none,[]⟩):∃e,e≠4∧evp a1x [.slice 9 l .no,.func (.func b1x) [] []] .none []=some ⟨oc e,.none,[]⟩:=by
 unfold c1h at hl
 refine d1K ?_
 have key:(j1w l).wp Pg cfg0 evp [] (fun r=>∃e,e≠4∧r=⟨oc e,.none,[]⟩):=by
  refine m1q (fun i:Nat=>⟨tm2 16 [(1,(.func (.func b1x) [] [])),(6,(.slice 9 (l) .no)),(7,(vI ((↑l.length:Int)))),(8,(vI i))],lm2 16 [],⟨[],[],.none,0⟩⟩) (fun i=>i≤l.length) (fun i=>l.length-i) 0 (by kernel_rfl) (Nat.zero_le _) ?_
  intro i hi
  refine a1j (n1i l i) ?_
  refine a1d (fun h=>?_) (fun h=>?_)
  ·have h:=of_decide_eq_true h
   obtain⟨k,o,n,p,a,b,c,d,e,h1,hx⟩:=hf l[i] (List.getElem_mem (by omega))
   have h2:l[i]? =some [vI k,vI o,vS n,.slice 1 p .no,.slice 4 a .no,.slice 8 b .no,.slice 2 c .no,.slice 5 d .no,.slice 5 e .no]:=by rw[List.getElem?_eq_getElem (by omega),h1]
   rw[a1Z (x:=i) (by omega)]
   refine⟨k,o,n,p,a,b,c,d,e,⟨Int.natCast_nonneg i,h2⟩,a1c hx ?_ (fun er he=>?_)⟩
   ·exact a1e ⟨i+1,⟨by omega,by omega⟩,rfl⟩
   ·exact a1h (a1u (a1z he))
  ·exact a1h (a1u b1w)
 have hk:kt2 a1x [.slice 9 l .no,.func (.func b1x) [] []] []=j1w l:=by kernel_rfl
 exact a1j hk key
theorem w1I {l:List (List AV)} (hl:l.length<c1h) (hf:∀r∈l,∃(k:Int) (o:Int) (n:ByteArray) (p:List (List AV)) (a:List (List AV)) (b:List (List AV)) (c:List (List AV)) (d:List (List AV)) (e:List (List AV)),r=[vI k,vI o,vS n,.slice 1 p .no,.slice 4 a .no,.slice 8 b .no,.slice 2 c .no,.slice 5 d .no,.slice 5 e .no]∧∃e',e'≠4∧evp b1s [.agg [vI k,vI o,vS n,.slice 1 p .no,.slice 4 a .no,.slice 8 b .no,.slice 2 c .no,.slice 5 d .no,.slice 5 e .no]] .none []=some ⟨oc e',.none,[]⟩):∃e,e≠4∧evp a1x [.slice 9 l .no,.func (.func b1s) [] []] .none []=some ⟨oc e,.none,[]⟩:=by
 unfold c1h at hl
 refine d1K ?_
 have key:(h1u l).wp Pg cfg0 evp [] (fun r=>∃e,e≠4∧r=⟨oc e,.none,[]⟩):=by
  refine m1q (fun i:Nat=>⟨tm2 16 [(1,(.func (.func b1s) [] [])),(6,(.slice 9 (l) .no)),(7,(vI ((↑l.length:Int)))),(8,(vI i))],lm2 16 [],⟨[],[],.none,0⟩⟩) (fun i=>i≤l.length) (fun i=>l.length-i) 0 (by kernel_rfl) (Nat.zero_le _) ?_
  intro i hi
  refine a1j (l1t l i) ?_
  refine a1d (fun h=>?_) (fun h=>?_)
  ·have h:=of_decide_eq_true h
   obtain⟨k,o,n,p,a,b,c,d,e,h1,hx⟩:=hf l[i] (List.getElem_mem (by omega))
   have h2:l[i]? =some [vI k,vI o,vS n,.slice 1 p .no,.slice 4 a .no,.slice 8 b .no,.slice 2 c .no,.slice 5 d .no,.slice 5 e .no]:=by rw[List.getElem?_eq_getElem (by omega),h1]
   rw[a1Z (x:=i) (by omega)]
   refine⟨k,o,n,p,a,b,c,d,e,⟨Int.natCast_nonneg i,h2⟩,a1c hx ?_ (fun er he=>?_)⟩
   ·exact a1e ⟨i+1,⟨by omega,by omega⟩,rfl⟩
   ·exact a1h (a1u (a1z he))
  ·exact a1h (a1u b1w)
 have hk:kt2 a1x [.slice 9 l .no,.func (.func b1s) [] []] []=h1u l:=by kernel_rfl
 exact a1j hk key
theorem d2k {l:List (List AV)} (hl:l.length<c1h) (hf:∀r∈l,∃(k:Int) (p:List (List AV)) (a:List (List AV)) (b:List (List AV)) (c:List (List AV)),r=[vI k,.slice 1 p .no,.slice 9 a .no,.slice 5 b .no,.slice 5 c .no]∧∃e',e'≠4∧evp b1t [.agg [vI k,.slice 1 p .no,.slice 9 a .no,.slice 5 b .no,.slice 5 c .no]] .none []=some ⟨oc e',.none,[]⟩):∃e,e≠4∧evp a1P [.slice 5 l .no,.func (.func b1t) [] []] .none []=some ⟨oc e,.none,[]⟩:=by
 unfold c1h at hl
 refine d1K ?_
 have key:(j1x l).wp Pg cfg0 evp [] (fun r=>∃e,e≠4∧r=⟨oc e,.none,[]⟩):=by
  refine m1q (fun i:Nat=>⟨tm2 16 [(1,(.func (.func b1t) [] [])),(6,(.slice 5 (l) .no)),(7,(vI ((↑l.length:Int)))),(8,(vI i))],lm2 16 [],⟨[],[],.none,0⟩⟩) (fun i=>i≤l.length) (fun i=>l.length-i) 0 (by kernel_rfl) (Nat.zero_le _) ?_
  intro i hi
  refine a1j (n1j l i) ?_
  refine a1d (fun h=>?_) (fun h=>?_)
  ·have h:=of_decide_eq_true h
   obtain⟨k,p,a,b,c,h1,hx⟩:=hf l[i] (List.getElem_mem (by omega))
   have h2:l[i]? =some [vI k,.slice 1 p .no,.slice 9 a .no,.slice 5 b .no,.slice 5 c .no]:=by rw[List.getElem?_eq_getElem (by omega),h1]
   rw[a1Z (x:=i) (by omega)]
   refine⟨k,p,a,b,c,⟨Int.natCast_nonneg i,h2⟩,a1c hx ?_ (fun er he=>?_)⟩
   ·exact a1e ⟨i+1,⟨by omega,by omega⟩,rfl⟩
   ·exact a1h (a1u (a1z he))
  ·exact a1h (a1u b1w)
 have hk:kt2 a1P [.slice 5 l .no,.func (.func b1t) [] []] []=j1x l:=by kernel_rfl
 exact a1j hk key
theorem d2l {l:List (List AV)} (hl:l.length<c1h) (hf:∀r∈l,∃(k:Int) (p:List (List AV)) (a:List (List AV)) (b:List (List AV)) (c:List (List AV)),r=[vI k,.slice 1 p .no,.slice 6 a .no,.slice 5 b .no,.slice 4 c .no]∧∃e',e'≠4∧evp a1Y [.agg [vI k,.slice 1 p .no,.slice 6 a .no,.slice 5 b .no,.slice 4 c .no]] .none []=some ⟨oc e',.none,[]⟩):∃e,e≠4∧evp a1w [.slice 5 l .no,.func (.func a1Y) [] []] .none []=some ⟨oc e,.none,[]⟩:=by
 unfold c1h at hl
 refine d1K ?_
 have key:(j1y l).wp Pg cfg0 evp [] (fun r=>∃e,e≠4∧r=⟨oc e,.none,[]⟩):=by
  refine m1q (fun i:Nat=>⟨tm2 16 [(1,(.func (.func a1Y) [] [])),(6,(.slice 5 (l) .no)),(7,(vI ((↑l.length:Int)))),(8,(vI i))],lm2 16 [],⟨[],[],.none,0⟩⟩) (fun i=>i≤l.length) (fun i=>l.length-i) 0 (by kernel_rfl) (Nat.zero_le _) ?_
  intro i hi
  refine a1j (n1k l i) ?_
  refine a1d (fun h=>?_) (fun h=>?_)
  ·have h:=of_decide_eq_true h
   obtain⟨k,p,a,b,c,h1,hx⟩:=hf l[i] (List.getElem_mem (by omega))
   have h2:l[i]? =some [vI k,.slice 1 p .no,.slice 6 a .no,.slice 5 b .no,.slice 4 c .no]:=by rw[List.getElem?_eq_getElem (by omega),h1]
   rw[a1Z (x:=i) (by omega)]
   refine⟨k,p,a,b,c,⟨Int.natCast_nonneg i,h2⟩,a1c hx ?_ (fun er he=>?_)⟩
   ·exact a1e ⟨i+1,⟨by omega,by omega⟩,rfl⟩
   ·exact a1h (a1u (a1z he))
  ·exact a1h (a1u b1w)
 have hk:kt2 a1w [.slice 5 l .no,.func (.func a1Y) [] []] []=j1y l:=by kernel_rfl
 exact a1j hk key
theorem w1J {l:List (List AV)} (hl:l.length<c1h) (hf:∀r∈l,∃(k:Int) (o:Int) (n:ByteArray) (a:List (List AV)) (b:List (List AV)) (c:List (List AV)),r=[vI k,vI o,vS n,.slice 4 a .no,.slice 2 b .no,.slice 5 c .no]∧∃e',e'≠4∧evp b1F [.agg [vI k,vI o,vS n,.slice 4 a .no,.slice 2 b .no,.slice 5 c .no]] .none []=some ⟨oc e',.none,[]⟩):∃e,e≠4∧evp a1K [.slice 6 l .no,.func (.func b1F) [] []] .none []=some ⟨oc e,.none,[]⟩:=by
 unfold c1h at hl
 refine d1K ?_
 have key:(h1v l).wp Pg cfg0 evp [] (fun r=>∃e,e≠4∧r=⟨oc e,.none,[]⟩):=by
  refine m1q (fun i:Nat=>⟨tm2 16 [(1,(.func (.func b1F) [] [])),(6,(.slice 6 (l) .no)),(7,(vI ((↑l.length:Int)))),(8,(vI i))],lm2 16 [],⟨[],[],.none,0⟩⟩) (fun i=>i≤l.length) (fun i=>l.length-i) 0 (by kernel_rfl) (Nat.zero_le _) ?_
  intro i hi
  refine a1j (l1u l i) ?_
  refine a1d (fun h=>?_) (fun h=>?_)
  ·have h:=of_decide_eq_true h
   obtain⟨k,o,n,a,b,c,h1,hx⟩:=hf l[i] (List.getElem_mem (by omega))
   have h2:l[i]? =some [vI k,vI o,vS n,.slice 4 a .no,.slice 2 b .no,.slice 5 c .no]:=by rw[List.getElem?_eq_getElem (by omega),h1]
   rw[a1Z (x:=i) (by omega)]
   refine⟨k,o,n,a,b,c,⟨Int.natCast_nonneg i,h2⟩,a1c hx ?_ (fun er he=>?_)⟩
   ·exact a1e ⟨i+1,⟨by omega,by omega⟩,rfl⟩
   ·exact a1h (a1u (a1z he))
  ·exact a1h (a1u b1w)
 have hk:kt2 a1K [.slice 6 l .no,.func (.func b1F) [] []] []=h1v l:=by kernel_rfl
 exact a1j hk key
theorem o1b {l:List (List AV)} (hl:l.length<c1h) (hf:∀r∈l,∃(s:ByteArray),r=[vS s]∧∃e',e'≠4∧evp a1G [vS s] .none []=some ⟨oc e',.none,[]⟩):∃e,e≠4∧evp b1b [.slice 1 l .no,.func (.func a1G) [] []] .none []=some ⟨oc e,.none,[]⟩:=by
 unfold c1h at hl
 refine d1K ?_
 have key:(e1O l).wp Pg cfg0 evp [] (fun r=>∃e,e≠4∧r=⟨oc e,.none,[]⟩):=by
  refine m1q (fun i:Nat=>⟨tm2 16 [(1,(.func (.func a1G) [] [])),(6,(.slice 1 (l) .no)),(7,(vI ((↑l.length:Int)))),(8,(vI i))],lm2 16 [],⟨[],[],.none,0⟩⟩) (fun i=>i≤l.length) (fun i=>l.length-i) 0 (by kernel_rfl) (Nat.zero_le _) ?_
  intro i hi
  refine a1j (i1V l i) ?_
  refine a1d (fun h=>?_) (fun h=>?_)
  ·have h:=of_decide_eq_true h
   obtain⟨s,h1,hx⟩:=hf l[i] (List.getElem_mem (by omega))
   have h2:l[i]? =some [vS s]:=by rw[List.getElem?_eq_getElem (by omega),h1]
   rw[a1Z (x:=i) (by omega)]
   refine⟨s,⟨Int.natCast_nonneg i,h2⟩,a1c hx ?_ (fun er he=>?_)⟩
   ·exact a1e ⟨i+1,⟨by omega,by omega⟩,rfl⟩
   ·exact a1h (a1u (a1z he))
  ·exact a1h (a1u b1w)
 have hk:kt2 b1b [.slice 1 l .no,.func (.func a1G) [] []] []=e1O l:=by kernel_rfl
 exact a1j hk key
theorem n1a {l:List (List AV)} (hl:l.length<c1h) (hf:∀r∈l,∃(s:ByteArray),r=[vS s]∧∃e',e'≠4∧evp a1A [vS s] .none []=some ⟨oc e',.none,[]⟩):∃e,e≠4∧evp b1b [.slice 1 l .no,.func (.func a1A) [] []] .none []=some ⟨oc e,.none,[]⟩:=by
 unfold c1h at hl
 refine d1K ?_
 have key:(e1z l).wp Pg cfg0 evp [] (fun r=>∃e,e≠4∧r=⟨oc e,.none,[]⟩):=by
  refine m1q (fun i:Nat=>⟨tm2 16 [(1,(.func (.func a1A) [] [])),(6,(.slice 1 (l) .no)),(7,(vI ((↑l.length:Int)))),(8,(vI i))],lm2 16 [],⟨[],[],.none,0⟩⟩) (fun i=>i≤l.length) (fun i=>l.length-i) 0 (by kernel_rfl) (Nat.zero_le _) ?_
  intro i hi
  refine a1j (i1r l i) ?_
  refine a1d (fun h=>?_) (fun h=>?_)
  ·have h:=of_decide_eq_true h
   obtain⟨s,h1,hx⟩:=hf l[i] (List.getElem_mem (by omega))
   have h2:l[i]? =some [vS s]:=by rw[List.getElem?_eq_getElem (by omega),h1]
   rw[a1Z (x:=i) (by omega)]
   refine⟨s,⟨Int.natCast_nonneg i,h2⟩,a1c hx ?_ (fun er he=>?_)⟩
   ·exact a1e ⟨i+1,⟨by omega,by omega⟩,rfl⟩
   ·exact a1h (a1u (a1z he))
  ·exact a1h (a1u b1w)
 have hk:kt2 b1b [.slice 1 l .no,.func (.func a1A) [] []] []=e1z l:=by kernel_rfl
 exact a1j hk key
theorem a1W {p:List (List AV)} (hp:Strs p) (hl:p.length<c1h):∃e,e≠4∧evp b1b [.slice 1 p .no,.func (.func a1G) [] []] .none []=some ⟨oc e,.none,[]⟩:=
 o1b hl fun r hr=>by obtain⟨s,h1,h2⟩:=hp r hr;exact⟨s,h1,c1a h2⟩
theorem a1J {p:List (List AV)} (hp:Strs p) (hl:p.length<c1h):∃e,e≠4∧evp b1b [.slice 1 p .no,.func (.func a1A) [] []] .none []=some ⟨oc e,.none,[]⟩:=
 n1a hl fun r hr=>by obtain⟨s,h1,h2⟩:=hp r hr;exact⟨s,h1,b1H h2⟩
theorem a_Ty {k:Int} {n:ByteArray} {p:List (List AV)} {a:List (List AV)} (hn:n.size<c1h) (hp:Strs p) (lp:p.length<c1h) (ea_ty:∃er,er≠4∧evp a1m [.slice 4 a .no,.func (.func a1F) [] []] .none []=some ⟨oc er,.none,[]⟩):∃er,er≠4∧evp a1F [.agg [vI k,vS n,.slice 1 p .no,.slice 4 a .no]] .none []=some ⟨oc er,.none,[]⟩:=by
 have w4:((d2D k n p a).K ⟨tm2 69 [(1,(.ref [(vI (k)),(vS (n)),(.slice 1 (p) .no),(.slice 4 (a) .no)]))],lm2 69 [],⟨[],[],.none,0⟩⟩).wp Pg cfg0 evp [] (fun r=>∃er,er≠4∧r=⟨oc er,.none,[]⟩):=a1j (d2F k n p a) (by
  repeat' first
   |exact b1w
   |exact a1z (by decide)
   |exact a1z (by assumption)
   |refine a1u ?_
   |refine a1h ?_
   |refine a1t ?_
   |refine a1c (d1h _) ?_ (fun er he=>?_)
   |refine a1c (b1D _ _ _) ?_ (fun er he=>?_)
   |refine b1e (fun i0 j0 k0=>?_)
   |refine a1c (c1a hn) ?_ (fun er he=>?_)
   |refine a1c (b1H hn) ?_ (fun er he=>?_)
   |refine a1n (d1q hn) (fun b=>?_)
   |refine a1c (a1V hp) ?_ (fun er he=>?_)
   |refine a1c (a1I hp) ?_ (fun er he=>?_)
   |refine a1n (b1I hp) (fun b=>?_)
   |refine a1c (a1W hp lp) ?_ (fun er he=>?_)
   |refine a1c (a1J hp lp) ?_ (fun er he=>?_)
   |refine a1c ea_ty ?_ (fun er he=>?_)
   |refine a1d (fun h=>?_) (fun h=>?_))
 have w3:((y1b k n p a).K ⟨tm2 69 [(1,(.ref [(vI (k)),(vS (n)),(.slice 1 (p) .no),(.slice 4 (a) .no)]))],lm2 69 [],⟨[],[],.none,0⟩⟩).wp Pg cfg0 evp [] (fun r=>∃er,er≠4∧r=⟨oc er,.none,[]⟩):=a1j (d2E k n p a) (by
  repeat' first
   |exact b1w
   |exact a1z (by decide)
   |exact a1z (by assumption)
   |exact a1e (w4)
   |refine a1u ?_
   |refine a1h ?_
   |refine a1t ?_
   |refine a1c (d1h _) ?_ (fun er he=>?_)
   |refine a1c (b1D _ _ _) ?_ (fun er he=>?_)
   |refine b1e (fun i0 j0 k0=>?_)
   |refine a1c (c1a hn) ?_ (fun er he=>?_)
   |refine a1c (b1H hn) ?_ (fun er he=>?_)
   |refine a1n (d1q hn) (fun b=>?_)
   |refine a1c (a1V hp) ?_ (fun er he=>?_)
   |refine a1c (a1I hp) ?_ (fun er he=>?_)
   |refine a1n (b1I hp) (fun b=>?_)
   |refine a1c (a1W hp lp) ?_ (fun er he=>?_)
   |refine a1c (a1J hp lp) ?_ (fun er he=>?_)
   |refine a1c ea_ty ?_ (fun er he=>?_)
   |refine a1d (fun h=>?_) (fun h=>?_))
 have w2:((y1a k n p a).K ⟨tm2 69 [(1,(.ref [(vI (k)),(vS (n)),(.slice 1 (p) .no),(.slice 4 (a) .no)]))],lm2 69 [],⟨[],[],.none,0⟩⟩).wp Pg cfg0 evp [] (fun r=>∃er,er≠4∧r=⟨oc er,.none,[]⟩):=a1j (d2C k n p a) (by
  repeat' first
   |exact b1w
   |exact a1z (by decide)
   |exact a1z (by assumption)
   |exact a1e (w4)
   |exact a1e (w3)
   |refine a1u ?_
   |refine a1h ?_
   |refine a1t ?_
   |refine a1c (d1h _) ?_ (fun er he=>?_)
   |refine a1c (b1D _ _ _) ?_ (fun er he=>?_)
   |refine b1e (fun i0 j0 k0=>?_)
   |refine a1c (c1a hn) ?_ (fun er he=>?_)
   |refine a1c (b1H hn) ?_ (fun er he=>?_)
   |refine a1n (d1q hn) (fun b=>?_)
   |refine a1c (a1V hp) ?_ (fun er he=>?_)
   |refine a1c (a1I hp) ?_ (fun er he=>?_)
   |refine a1n (b1I hp) (fun b=>?_)
   |refine a1c (a1W hp lp) ?_ (fun er he=>?_)
   |refine a1c (a1J hp lp) ?_ (fun er he=>?_)
   |refine a1c ea_ty ?_ (fun er he=>?_)
   |refine a1d (fun h=>?_) (fun h=>?_))
 have w1:((X_Ty k n p a).K ⟨tm2 69 [(1,(.ref [(vI (k)),(vS (n)),(.slice 1 (p) .no),(.slice 4 (a) .no)]))],lm2 69 [],⟨[],[],.none,0⟩⟩).wp Pg cfg0 evp [] (fun r=>∃er,er≠4∧r=⟨oc er,.none,[]⟩):=a1j (d2B k n p a) (by
  repeat' first
   |exact b1w
   |exact a1z (by decide)
   |exact a1z (by assumption)
   |exact a1e (w4)
   |exact a1e (w3)
   |exact a1e (w2)
   |refine a1u ?_
   |refine a1h ?_
   |refine a1t ?_
   |refine a1c (d1h _) ?_ (fun er he=>?_)
   |refine a1c (b1D _ _ _) ?_ (fun er he=>?_)
   |refine b1e (fun i0 j0 k0=>?_)
   |refine a1c (c1a hn) ?_ (fun er he=>?_)
   |refine a1c (b1H hn) ?_ (fun er he=>?_)
   |refine a1n (d1q hn) (fun b=>?_)
   |refine a1c (a1V hp) ?_ (fun er he=>?_)
   |refine a1c (a1I hp) ?_ (fun er he=>?_)
   |refine a1n (b1I hp) (fun b=>?_)
   |refine a1c (a1W hp lp) ?_ (fun er he=>?_)
   |refine a1c (a1J hp lp) ?_ (fun er he=>?_)
   |refine a1c ea_ty ?_ (fun er he=>?_)
   |refine a1d (fun h=>?_) (fun h=>?_))
 exact d1K (a1j (X_Ty_eq k n p a) (by
  repeat' first
   |exact b1w
   |exact a1z (by decide)
   |exact a1z (by assumption)
   |exact a1e (w4)
   |exact a1e (w3)
   |exact a1e (w2)
   |exact a1e (w1)
   |refine a1u ?_
   |refine a1h ?_
   |refine a1t ?_
   |refine a1c (d1h _) ?_ (fun er he=>?_)
   |refine a1c (b1D _ _ _) ?_ (fun er he=>?_)
   |refine b1e (fun i0 j0 k0=>?_)
   |refine a1c (c1a hn) ?_ (fun er he=>?_)
   |refine a1c (b1H hn) ?_ (fun er he=>?_)
   |refine a1n (d1q hn) (fun b=>?_)
   |refine a1c (a1V hp) ?_ (fun er he=>?_)
   |refine a1c (a1I hp) ?_ (fun er he=>?_)
   |refine a1n (b1I hp) (fun b=>?_)
   |refine a1c (a1W hp lp) ?_ (fun er he=>?_)
   |refine a1c (a1J hp lp) ?_ (fun er he=>?_)
   |refine a1c ea_ty ?_ (fun er he=>?_)
   |refine a1d (fun h=>?_) (fun h=>?_)))
theorem a_Pat {k:Int} {n:ByteArray} {p:List (List AV)} {m:Int} {a:List (List AV)} (hn:n.size<c1h) (hp:Strs p) (lp:p.length<c1h) (ea_pat:∃er,er≠4∧evp a1S [.slice 5 a .no,.func (.func b1n) [] []] .none []=some ⟨oc er,.none,[]⟩):∃er,er≠4∧evp b1n [.agg [vI k,vS n,.slice 1 p .no,vI m,.slice 5 a .no]] .none []=some ⟨oc er,.none,[]⟩:=by
 have w4:((w1R k n p m a).K ⟨tm2 82 [(1,(.ref [(vI (k)),(vS (n)),(.slice 1 (p) .no),(vI (m)),(.slice 5 (a) .no)]))],lm2 82 [],⟨[],[],.none,0⟩⟩).wp Pg cfg0 evp [] (fun r=>∃er,er≠4∧r=⟨oc er,.none,[]⟩):=a1j (a2c k n p m a) (by
  repeat' first
   |exact b1w
   |exact a1z (by decide)
   |exact a1z (by assumption)
   |refine a1u ?_
   |refine a1h ?_
   |refine a1t ?_
   |refine a1c (d1h _) ?_ (fun er he=>?_)
   |refine a1c (b1D _ _ _) ?_ (fun er he=>?_)
   |refine b1e (fun i0 j0 k0=>?_)
   |refine a1c (c1a hn) ?_ (fun er he=>?_)
   |refine a1c (b1H hn) ?_ (fun er he=>?_)
   |refine a1n (d1q hn) (fun b=>?_)
   |refine a1c (a1V hp) ?_ (fun er he=>?_)
   |refine a1c (a1I hp) ?_ (fun er he=>?_)
   |refine a1n (b1I hp) (fun b=>?_)
   |refine a1c (a1W hp lp) ?_ (fun er he=>?_)
   |refine a1c (a1J hp lp) ?_ (fun er he=>?_)
   |refine a1c ea_pat ?_ (fun er he=>?_)
   |refine a1d (fun h=>?_) (fun h=>?_))
 have w3:((t1c k n p m a).K ⟨tm2 82 [(1,(.ref [(vI (k)),(vS (n)),(.slice 1 (p) .no),(vI (m)),(.slice 5 (a) .no)]))],lm2 82 [],⟨[],[],.none,0⟩⟩).wp Pg cfg0 evp [] (fun r=>∃er,er≠4∧r=⟨oc er,.none,[]⟩):=a1j (a2b k n p m a) (by
  repeat' first
   |exact b1w
   |exact a1z (by decide)
   |exact a1z (by assumption)
   |exact a1e (w4)
   |refine a1u ?_
   |refine a1h ?_
   |refine a1t ?_
   |refine a1c (d1h _) ?_ (fun er he=>?_)
   |refine a1c (b1D _ _ _) ?_ (fun er he=>?_)
   |refine b1e (fun i0 j0 k0=>?_)
   |refine a1c (c1a hn) ?_ (fun er he=>?_)
   |refine a1c (b1H hn) ?_ (fun er he=>?_)
   |refine a1n (d1q hn) (fun b=>?_)
   |refine a1c (a1V hp) ?_ (fun er he=>?_)
   |refine a1c (a1I hp) ?_ (fun er he=>?_)
   |refine a1n (b1I hp) (fun b=>?_)
   |refine a1c (a1W hp lp) ?_ (fun er he=>?_)
   |refine a1c (a1J hp lp) ?_ (fun er he=>?_)
   |refine a1c ea_pat ?_ (fun er he=>?_)
   |refine a1d (fun h=>?_) (fun h=>?_))
 have w2:((t1b k n p m a).K ⟨tm2 82 [(1,(.ref [(vI (k)),(vS (n)),(.slice 1 (p) .no),(vI (m)),(.slice 5 (a) .no)]))],lm2 82 [],⟨[],[],.none,0⟩⟩).wp Pg cfg0 evp [] (fun r=>∃er,er≠4∧r=⟨oc er,.none,[]⟩):=a1j (a2a k n p m a) (by
  repeat' first
   |exact b1w
   |exact a1z (by decide)
   |exact a1z (by assumption)
   |exact a1e (w4)
   |exact a1e (w3)
   |refine a1u ?_
   |refine a1h ?_
   |refine a1t ?_
   |refine a1c (d1h _) ?_ (fun er he=>?_)
   |refine a1c (b1D _ _ _) ?_ (fun er he=>?_)
   |refine b1e (fun i0 j0 k0=>?_)
   |refine a1c (c1a hn) ?_ (fun er he=>?_)
   |refine a1c (b1H hn) ?_ (fun er he=>?_)
   |refine a1n (d1q hn) (fun b=>?_)
   |refine a1c (a1V hp) ?_ (fun er he=>?_)
   |refine a1c (a1I hp) ?_ (fun er he=>?_)
   |refine a1n (b1I hp) (fun b=>?_)
   |refine a1c (a1W hp lp) ?_ (fun er he=>?_)
   |refine a1c (a1J hp lp) ?_ (fun er he=>?_)
   |refine a1c ea_pat ?_ (fun er he=>?_)
   |refine a1d (fun h=>?_) (fun h=>?_))
 have w1:((f2I k n p m a).K ⟨tm2 82 [(1,(.ref [(vI (k)),(vS (n)),(.slice 1 (p) .no),(vI (m)),(.slice 5 (a) .no)]))],lm2 82 [],⟨[],[],.none,0⟩⟩).wp Pg cfg0 evp [] (fun r=>∃er,er≠4∧r=⟨oc er,.none,[]⟩):=a1j (z1Z k n p m a) (by
  repeat' first
   |exact b1w
   |exact a1z (by decide)
   |exact a1z (by assumption)
   |exact a1e (w4)
   |exact a1e (w3)
   |exact a1e (w2)
   |refine a1u ?_
   |refine a1h ?_
   |refine a1t ?_
   |refine a1c (d1h _) ?_ (fun er he=>?_)
   |refine a1c (b1D _ _ _) ?_ (fun er he=>?_)
   |refine b1e (fun i0 j0 k0=>?_)
   |refine a1c (c1a hn) ?_ (fun er he=>?_)
   |refine a1c (b1H hn) ?_ (fun er he=>?_)
   |refine a1n (d1q hn) (fun b=>?_)
   |refine a1c (a1V hp) ?_ (fun er he=>?_)
   |refine a1c (a1I hp) ?_ (fun er he=>?_)
   |refine a1n (b1I hp) (fun b=>?_)
   |refine a1c (a1W hp lp) ?_ (fun er he=>?_)
   |refine a1c (a1J hp lp) ?_ (fun er he=>?_)
   |refine a1c ea_pat ?_ (fun er he=>?_)
   |refine a1d (fun h=>?_) (fun h=>?_))
 exact d1K (a1j (f2J k n p m a) (by
  repeat' first
   |exact b1w
   |exact a1z (by decide)
   |exact a1z (by assumption)
   |exact a1e (w4)
   |exact a1e (w3)
   |exact a1e (w2)
   |exact a1e (w1)
   |refine a1u ?_
   |refine a1h ?_
   |refine a1t ?_
   |refine a1c (d1h _) ?_ (fun er he=>?_)
   |refine a1c (b1D _ _ _) ?_ (fun er he=>?_)
   |refine b1e (fun i0 j0 k0=>?_)
   |refine a1c (c1a hn) ?_ (fun er he=>?_)
   |refine a1c (b1H hn) ?_ (fun er he=>?_)
   |refine a1n (d1q hn) (fun b=>?_)
   |refine a1c (a1V hp) ?_ (fun er he=>?_)
   |refine a1c (a1I hp) ?_ (fun er he=>?_)
   |refine a1n (b1I hp) (fun b=>?_)
   |refine a1c (a1W hp lp) ?_ (fun er he=>?_)
   |refine a1c (a1J hp lp) ?_ (fun er he=>?_)
   |refine a1c ea_pat ?_ (fun er he=>?_)
   |refine a1d (fun h=>?_) (fun h=>?_)))
theorem a_Exp {k:Int} {o:Int} {m:Int} {p:List (List AV)} {a:List (List AV)} {b:List (List AV)} {c:List (List AV)} {d:List (List AV)} (hp:Strs p) (lp:p.length<c1h) (ea_pat:∃er,er≠4∧evp a1S [.slice 5 a .no,.func (.func b1n) [] []] .none []=some ⟨oc er,.none,[]⟩) (eb_exp:∃er,er≠4∧evp a1N [.slice 8 b .no,.func (.func b1c) [] []] .none []=some ⟨oc er,.none,[]⟩) (ec_dec:∃er,er≠4∧evp a1x [.slice 9 c .no,.func (.func b1x) [] []] .none []=some ⟨oc er,.none,[]⟩) (ec_exp_1:∃er,er≠4∧evp a1x [.slice 9 c .no,.func (.func b1s) [] []] .none []=some ⟨oc er,.none,[]⟩) (ed_ty:∃er,er≠4∧evp a1m [.slice 4 d .no,.func (.func a1F) [] []] .none []=some ⟨oc er,.none,[]⟩):∃er,er≠4∧evp b1c [.agg [vI k,vI o,vI m,.slice 1 p .no,.slice 5 a .no,.slice 8 b .no,.slice 9 c .no,.slice 4 d .no]] .none []=some ⟨oc er,.none,[]⟩:=by
 have w9:∀(i:Int) (i1:Int) (i2:Int) (q5x0:Int) (q5x1:Int),((w1S k o m p a b c d i i1 i2 q5x0 q5x1).K ⟨tm2 131 [(1,(.ref [(vI (k)),(vI (o)),(vI (m)),(.slice 1 (p) .no),(.slice 5 (a) .no),(.slice 8 (b) .no),(.slice 9 (c) .no),(.slice 4 (d) .no)]))],lm2 131 [],⟨[],[],.none,0⟩⟩).wp Pg cfg0 evp [] (fun r=>∃er,er≠4∧r=⟨oc er,.none,[]⟩):=fun i i1 i2 q5x0 q5x1=>a1j (a2l k o m p a b c d i i1 i2 q5x0 q5x1) (by
  repeat' first
   |exact b1w
   |exact a1z (by decide)
   |exact a1z (by assumption)
   |refine a1u ?_
   |refine a1h ?_
   |refine a1t ?_
   |refine a1c (d1h _) ?_ (fun er he=>?_)
   |refine a1c (b1D _ _ _) ?_ (fun er he=>?_)
   |refine b1e (fun i0 j0 k0=>?_)
   |refine a1c (a1V hp) ?_ (fun er he=>?_)
   |refine a1c (a1I hp) ?_ (fun er he=>?_)
   |refine a1n (b1I hp) (fun b=>?_)
   |refine a1c (a1W hp lp) ?_ (fun er he=>?_)
   |refine a1c (a1J hp lp) ?_ (fun er he=>?_)
   |refine a1c ea_pat ?_ (fun er he=>?_)
   |refine a1c eb_exp ?_ (fun er he=>?_)
   |refine a1c ec_dec ?_ (fun er he=>?_)
   |refine a1c ec_exp_1 ?_ (fun er he=>?_)
   |refine a1c ed_ty ?_ (fun er he=>?_)
   |refine a1d (fun h=>?_) (fun h=>?_))
 have w8:∀(i:Int) (i1:Int) (i2:Int) (q5x0:Int) (q5x1:Int),((t1j k o m p a b c d i i1 i2 q5x0 q5x1).T.T.K ⟨tm2 131 [(1,(.ref [(vI (k)),(vI (o)),(vI (m)),(.slice 1 (p) .no),(.slice 5 (a) .no),(.slice 8 (b) .no),(.slice 9 (c) .no),(.slice 4 (d) .no)]))],lm2 131 [],⟨[],[],.none,0⟩⟩).wp Pg cfg0 evp [] (fun r=>∃er,er≠4∧r=⟨oc er,.none,[]⟩):=fun i i1 i2 q5x0 q5x1=>a1j (a2k k o m p a b c d i i1 i2 q5x0 q5x1) (by
  repeat' first
   |exact b1w
   |exact a1z (by decide)
   |exact a1z (by assumption)
   |exact a1e (w9 _ _ _ _ _)
   |refine a1u ?_
   |refine a1h ?_
   |refine a1t ?_
   |refine a1c (d1h _) ?_ (fun er he=>?_)
   |refine a1c (b1D _ _ _) ?_ (fun er he=>?_)
   |refine b1e (fun i0 j0 k0=>?_)
   |refine a1c (a1V hp) ?_ (fun er he=>?_)
   |refine a1c (a1I hp) ?_ (fun er he=>?_)
   |refine a1n (b1I hp) (fun b=>?_)
   |refine a1c (a1W hp lp) ?_ (fun er he=>?_)
   |refine a1c (a1J hp lp) ?_ (fun er he=>?_)
   |refine a1c ea_pat ?_ (fun er he=>?_)
   |refine a1c eb_exp ?_ (fun er he=>?_)
   |refine a1c ec_dec ?_ (fun er he=>?_)
   |refine a1c ec_exp_1 ?_ (fun er he=>?_)
   |refine a1c ed_ty ?_ (fun er he=>?_)
   |refine a1d (fun h=>?_) (fun h=>?_))
 have w7:∀(i:Int) (i1:Int) (i2:Int) (q5x0:Int) (q5x1:Int),((t1i k o m p a b c d i i1 i2 q5x0 q5x1).K ⟨tm2 131 [(1,(.ref [(vI (k)),(vI (o)),(vI (m)),(.slice 1 (p) .no),(.slice 5 (a) .no),(.slice 8 (b) .no),(.slice 9 (c) .no),(.slice 4 (d) .no)]))],lm2 131 [],⟨[],[],.none,0⟩⟩).wp Pg cfg0 evp [] (fun r=>∃er,er≠4∧r=⟨oc er,.none,[]⟩):=fun i i1 i2 q5x0 q5x1=>a1j (a2j k o m p a b c d i i1 i2 q5x0 q5x1) (by
  repeat' first
   |exact b1w
   |exact a1z (by decide)
   |exact a1z (by assumption)
   |exact a1e (w9 _ _ _ _ _)
   |exact a1e (w8 _ _ _ _ _)
   |refine a1u ?_
   |refine a1h ?_
   |refine a1t ?_
   |refine a1c (d1h _) ?_ (fun er he=>?_)
   |refine a1c (b1D _ _ _) ?_ (fun er he=>?_)
   |refine b1e (fun i0 j0 k0=>?_)
   |refine a1c (a1V hp) ?_ (fun er he=>?_)
   |refine a1c (a1I hp) ?_ (fun er he=>?_)
   |refine a1n (b1I hp) (fun b=>?_)
   |refine a1c (a1W hp lp) ?_ (fun er he=>?_)
   |refine a1c (a1J hp lp) ?_ (fun er he=>?_)
   |refine a1c ea_pat ?_ (fun er he=>?_)
   |refine a1c eb_exp ?_ (fun er he=>?_)
   |refine a1c ec_dec ?_ (fun er he=>?_)
   |refine a1c ec_exp_1 ?_ (fun er he=>?_)
   |refine a1c ed_ty ?_ (fun er he=>?_)
   |refine a1d (fun h=>?_) (fun h=>?_))
 have w6:∀(i:Int) (i1:Int) (i2:Int) (q5x0:Int) (q5x1:Int),((t1h k o m p a b c d i i1 i2 q5x0 q5x1).K ⟨tm2 131 [(1,(.ref [(vI (k)),(vI (o)),(vI (m)),(.slice 1 (p) .no),(.slice 5 (a) .no),(.slice 8 (b) .no),(.slice 9 (c) .no),(.slice 4 (d) .no)]))],lm2 131 [],⟨[],[],.none,0⟩⟩).wp Pg cfg0 evp [] (fun r=>∃er,er≠4∧r=⟨oc er,.none,[]⟩):=fun i i1 i2 q5x0 q5x1=>a1j (a2i k o m p a b c d i i1 i2 q5x0 q5x1) (by
  repeat' first
   |exact b1w
   |exact a1z (by decide)
   |exact a1z (by assumption)
   |exact a1e (w9 _ _ _ _ _)
   |exact a1e (w8 _ _ _ _ _)
   |exact a1e (w7 _ _ _ _ _)
   |refine a1u ?_
   |refine a1h ?_
   |refine a1t ?_
   |refine a1c (d1h _) ?_ (fun er he=>?_)
   |refine a1c (b1D _ _ _) ?_ (fun er he=>?_)
   |refine b1e (fun i0 j0 k0=>?_)
   |refine a1c (a1V hp) ?_ (fun er he=>?_)
   |refine a1c (a1I hp) ?_ (fun er he=>?_)
   |refine a1n (b1I hp) (fun b=>?_)
   |refine a1c (a1W hp lp) ?_ (fun er he=>?_)
   |refine a1c (a1J hp lp) ?_ (fun er he=>?_)
   |refine a1c ea_pat ?_ (fun er he=>?_)
   |refine a1c eb_exp ?_ (fun er he=>?_)
   |refine a1c ec_dec ?_ (fun er he=>?_)
   |refine a1c ec_exp_1 ?_ (fun er he=>?_)
   |refine a1c ed_ty ?_ (fun er he=>?_)
   |refine a1d (fun h=>?_) (fun h=>?_))
 have w5:∀(i:Int) (i1:Int) (i2:Int) (q5x0:Int) (q5x1:Int),(((((t1g k o m p a b c d).I i).I i1).I i2).T.K ⟨tm2 131 [(1,(.ref [(vI (k)),(vI (o)),(vI (m)),(.slice 1 (p) .no),(.slice 5 (a) .no),(.slice 8 (b) .no),(.slice 9 (c) .no),(.slice 4 (d) .no)])),(2,(vI (q5x0))),(3,(vI (q5x1))),(4,(vI (i2)))],lm2 131 [],⟨[],[],.none,0⟩⟩).wp Pg cfg0 evp [] (fun r=>∃er,er≠4∧r=⟨oc er,.none,[]⟩):=fun i i1 i2 q5x0 q5x1=>a1j (a2h k o m p a b c d i i1 i2 q5x0 q5x1) (by
  repeat' first
   |exact b1w
   |exact a1z (by decide)
   |exact a1z (by assumption)
   |exact a1e (w9 _ _ _ _ _)
   |exact a1e (w8 _ _ _ _ _)
   |exact a1e (w7 _ _ _ _ _)
   |exact a1e (w6 _ _ _ _ _)
   |refine a1u ?_
   |refine a1h ?_
   |refine a1t ?_
   |refine a1c (d1h _) ?_ (fun er he=>?_)
   |refine a1c (b1D _ _ _) ?_ (fun er he=>?_)
   |refine b1e (fun i0 j0 k0=>?_)
   |refine a1c (a1V hp) ?_ (fun er he=>?_)
   |refine a1c (a1I hp) ?_ (fun er he=>?_)
   |refine a1n (b1I hp) (fun b=>?_)
   |refine a1c (a1W hp lp) ?_ (fun er he=>?_)
   |refine a1c (a1J hp lp) ?_ (fun er he=>?_)
   |refine a1c ea_pat ?_ (fun er he=>?_)
   |refine a1c eb_exp ?_ (fun er he=>?_)
   |refine a1c ec_dec ?_ (fun er he=>?_)
   |refine a1c ec_exp_1 ?_ (fun er he=>?_)
   |refine a1c ed_ty ?_ (fun er he=>?_)
   |refine a1d (fun h=>?_) (fun h=>?_))
 have w4:((t1f k o m p a b c d).K ⟨tm2 131 [(1,(.ref [(vI (k)),(vI (o)),(vI (m)),(.slice 1 (p) .no),(.slice 5 (a) .no),(.slice 8 (b) .no),(.slice 9 (c) .no),(.slice 4 (d) .no)]))],lm2 131 [],⟨[],[],.none,0⟩⟩).wp Pg cfg0 evp [] (fun r=>∃er,er≠4∧r=⟨oc er,.none,[]⟩):=a1j (a2g k o m p a b c d) (by
  repeat' first
   |exact b1w
   |exact a1z (by decide)
   |exact a1z (by assumption)
   |exact a1e (w9 _ _ _ _ _)
   |exact a1e (w8 _ _ _ _ _)
   |exact a1e (w7 _ _ _ _ _)
   |exact a1e (w6 _ _ _ _ _)
   |exact a1e (w5 _ _ _ _ _)
   |refine a1u ?_
   |refine a1h ?_
   |refine a1t ?_
   |refine a1c (d1h _) ?_ (fun er he=>?_)
   |refine a1c (b1D _ _ _) ?_ (fun er he=>?_)
   |refine b1e (fun i0 j0 k0=>?_)
   |refine a1c (a1V hp) ?_ (fun er he=>?_)
   |refine a1c (a1I hp) ?_ (fun er he=>?_)
   |refine a1n (b1I hp) (fun b=>?_)
   |refine a1c (a1W hp lp) ?_ (fun er he=>?_)
   |refine a1c (a1J hp lp) ?_ (fun er he=>?_)
   |refine a1c ea_pat ?_ (fun er he=>?_)
   |refine a1c eb_exp ?_ (fun er he=>?_)
   |refine a1c ec_dec ?_ (fun er he=>?_)
   |refine a1c ec_exp_1 ?_ (fun er he=>?_)
   |refine a1c ed_ty ?_ (fun er he=>?_)
   |refine a1d (fun h=>?_) (fun h=>?_))
 have w3:((t1e k o m p a b c d).K ⟨tm2 131 [(1,(.ref [(vI (k)),(vI (o)),(vI (m)),(.slice 1 (p) .no),(.slice 5 (a) .no),(.slice 8 (b) .no),(.slice 9 (c) .no),(.slice 4 (d) .no)]))],lm2 131 [],⟨[],[],.none,0⟩⟩).wp Pg cfg0 evp [] (fun r=>∃er,er≠4∧r=⟨oc er,.none,[]⟩):=a1j (a2f k o m p a b c d) (by
  repeat' first
   |exact b1w
   |exact a1z (by decide)
   |exact a1z (by assumption)
   |exact a1e (w9 _ _ _ _ _)
   |exact a1e (w8 _ _ _ _ _)
   |exact a1e (w7 _ _ _ _ _)
   |exact a1e (w6 _ _ _ _ _)
   |exact a1e (w5 _ _ _ _ _)
   |exact a1e (w4)
   |refine a1u ?_
   |refine a1h ?_
   |refine a1t ?_
   |refine a1c (d1h _) ?_ (fun er he=>?_)
   |refine a1c (b1D _ _ _) ?_ (fun er he=>?_)
   |refine b1e (fun i0 j0 k0=>?_)
   |refine a1c (a1V hp) ?_ (fun er he=>?_)
   |refine a1c (a1I hp) ?_ (fun er he=>?_)
   |refine a1n (b1I hp) (fun b=>?_)
   |refine a1c (a1W hp lp) ?_ (fun er he=>?_)
   |refine a1c (a1J hp lp) ?_ (fun er he=>?_)
   |refine a1c ea_pat ?_ (fun er he=>?_)
   |refine a1c eb_exp ?_ (fun er he=>?_)
   |refine a1c ec_dec ?_ (fun er he=>?_)
   |refine a1c ec_exp_1 ?_ (fun er he=>?_)
   |refine a1c ed_ty ?_ (fun er he=>?_)
   |refine a1d (fun h=>?_) (fun h=>?_))
 have w2:((t1d k o m p a b c d).K ⟨tm2 131 [(1,(.ref [(vI (k)),(vI (o)),(vI (m)),(.slice 1 (p) .no),(.slice 5 (a) .no),(.slice 8 (b) .no),(.slice 9 (c) .no),(.slice 4 (d) .no)]))],lm2 131 [],⟨[],[],.none,0⟩⟩).wp Pg cfg0 evp [] (fun r=>∃er,er≠4∧r=⟨oc er,.none,[]⟩):=a1j (a2e k o m p a b c d) (by
  repeat' first
   |exact b1w
   |exact a1z (by decide)
   |exact a1z (by assumption)
   |exact a1e (w9 _ _ _ _ _)
   |exact a1e (w8 _ _ _ _ _)
   |exact a1e (w7 _ _ _ _ _)
   |exact a1e (w6 _ _ _ _ _)
   |exact a1e (w5 _ _ _ _ _)
   |exact a1e (w4)
   |exact a1e (w3)
   |refine a1u ?_
   |refine a1h ?_
   |refine a1t ?_
   |refine a1c (d1h _) ?_ (fun er he=>?_)
   |refine a1c (b1D _ _ _) ?_ (fun er he=>?_)
   |refine b1e (fun i0 j0 k0=>?_)
   |refine a1c (a1V hp) ?_ (fun er he=>?_)
   |refine a1c (a1I hp) ?_ (fun er he=>?_)
   |refine a1n (b1I hp) (fun b=>?_)
   |refine a1c (a1W hp lp) ?_ (fun er he=>?_)
   |refine a1c (a1J hp lp) ?_ (fun er he=>?_)
   |refine a1c ea_pat ?_ (fun er he=>?_)
   |refine a1c eb_exp ?_ (fun er he=>?_)
   |refine a1c ec_dec ?_ (fun er he=>?_)
   |refine a1c ec_exp_1 ?_ (fun er he=>?_)
   |refine a1c ed_ty ?_ (fun er he=>?_)
   |refine a1d (fun h=>?_) (fun h=>?_))
 have w1:((X_Exp k o m p a b c d).K ⟨tm2 131 [(1,(.ref [(vI (k)),(vI (o)),(vI (m)),(.slice 1 (p) .no),(.slice 5 (a) .no),(.slice 8 (b) .no),(.slice 9 (c) .no),(.slice 4 (d) .no)]))],lm2 131 [],⟨[],[],.none,0⟩⟩).wp Pg cfg0 evp [] (fun r=>∃er,er≠4∧r=⟨oc er,.none,[]⟩):=a1j (a2d k o m p a b c d) (by
  repeat' first
   |exact b1w
   |exact a1z (by decide)
   |exact a1z (by assumption)
   |exact a1e (w9 _ _ _ _ _)
   |exact a1e (w8 _ _ _ _ _)
   |exact a1e (w7 _ _ _ _ _)
   |exact a1e (w6 _ _ _ _ _)
   |exact a1e (w5 _ _ _ _ _)
   |exact a1e (w4)
   |exact a1e (w3)
   |exact a1e (w2)
   |refine a1u ?_
   |refine a1h ?_
   |refine a1t ?_
   |refine a1c (d1h _) ?_ (fun er he=>?_)
   |refine a1c (b1D _ _ _) ?_ (fun er he=>?_)
   |refine b1e (fun i0 j0 k0=>?_)
   |refine a1c (a1V hp) ?_ (fun er he=>?_)
   |refine a1c (a1I hp) ?_ (fun er he=>?_)
   |refine a1n (b1I hp) (fun b=>?_)
   |refine a1c (a1W hp lp) ?_ (fun er he=>?_)
   |refine a1c (a1J hp lp) ?_ (fun er he=>?_)
   |refine a1c ea_pat ?_ (fun er he=>?_)
   |refine a1c eb_exp ?_ (fun er he=>?_)
   |refine a1c ec_dec ?_ (fun er he=>?_)
   |refine a1c ec_exp_1 ?_ (fun er he=>?_)
   |refine a1c ed_ty ?_ (fun er he=>?_)
   |refine a1d (fun h=>?_) (fun h=>?_))
 exact d1K (a1j (X_Exp_eq k o m p a b c d) (by
  repeat' first
   |exact b1w
   |exact a1z (by decide)
   |exact a1z (by assumption)
   |exact a1e (w9 _ _ _ _ _)
   |exact a1e (w8 _ _ _ _ _)
   |exact a1e (w7 _ _ _ _ _)
   |exact a1e (w6 _ _ _ _ _)
   |exact a1e (w5 _ _ _ _ _)
   |exact a1e (w4)
   |exact a1e (w3)
   |exact a1e (w2)
   |exact a1e (w1)
   |refine a1u ?_
   |refine a1h ?_
   |refine a1t ?_
   |refine a1c (d1h _) ?_ (fun er he=>?_)
   |refine a1c (b1D _ _ _) ?_ (fun er he=>?_)
   |refine b1e (fun i0 j0 k0=>?_)
   |refine a1c (a1V hp) ?_ (fun er he=>?_)
   |refine a1c (a1I hp) ?_ (fun er he=>?_)
   |refine a1n (b1I hp) (fun b=>?_)
   |refine a1c (a1W hp lp) ?_ (fun er he=>?_)
   |refine a1c (a1J hp lp) ?_ (fun er he=>?_)
   |refine a1c ea_pat ?_ (fun er he=>?_)
   |refine a1c eb_exp ?_ (fun er he=>?_)
   |refine a1c ec_dec ?_ (fun er he=>?_)
   |refine a1c ec_exp_1 ?_ (fun er he=>?_)
   |refine a1c ed_ty ?_ (fun er he=>?_)
   |refine a1d (fun h=>?_) (fun h=>?_)))
theorem a_Con {n:ByteArray} {a:List (List AV)} (hn:n.size<c1h) (ea_ty:∃er,er≠4∧evp a1m [.slice 4 a .no,.func (.func a1F) [] []] .none []=some ⟨oc er,.none,[]⟩):∃er,er≠4∧evp b1y [.agg [vS n,.slice 4 a .no]] .none []=some ⟨oc er,.none,[]⟩:=by
 exact d1K (a1j (f2K n a) (by
  repeat' first
   |exact b1w
   |exact a1z (by decide)
   |exact a1z (by assumption)
   |refine a1u ?_
   |refine a1h ?_
   |refine a1t ?_
   |refine a1c (d1h _) ?_ (fun er he=>?_)
   |refine a1c (b1D _ _ _) ?_ (fun er he=>?_)
   |refine b1e (fun i0 j0 k0=>?_)
   |refine a1c (c1a hn) ?_ (fun er he=>?_)
   |refine a1c (b1H hn) ?_ (fun er he=>?_)
   |refine a1n (d1q hn) (fun b=>?_)
   |refine a1c ea_ty ?_ (fun er he=>?_)
   |refine a1d (fun h=>?_) (fun h=>?_)))
theorem a_Dec {k:Int} {o:Int} {n:ByteArray} {p:List (List AV)} {a:List (List AV)} {b:List (List AV)} {c:List (List AV)} {d:List (List AV)} {e:List (List AV)} (hn:n.size<c1h) (hp:Strs p) (lp:p.length<c1h) (ea_ty:∃er,er≠4∧evp a1m [.slice 4 a .no,.func (.func a1F) [] []] .none []=some ⟨oc er,.none,[]⟩) (eb_exp:∃er,er≠4∧evp a1N [.slice 8 b .no,.func (.func b1c) [] []] .none []=some ⟨oc er,.none,[]⟩) (ec_con:∃er,er≠4∧evp a1O [.slice 2 c .no,.func (.func b1y) [] []] .none []=some ⟨oc er,.none,[]⟩) (ed_mod:∃er,er≠4∧evp a1P [.slice 5 d .no,.func (.func b1t) [] []] .none []=some ⟨oc er,.none,[]⟩) (ee_sig:∃er,er≠4∧evp a1w [.slice 5 e .no,.func (.func a1Y) [] []] .none []=some ⟨oc er,.none,[]⟩):∃er,er≠4∧evp b1x [.agg [vI k,vI o,vS n,.slice 1 p .no,.slice 4 a .no,.slice 8 b .no,.slice 2 c .no,.slice 5 d .no,.slice 5 e .no]] .none []=some ⟨oc er,.none,[]⟩:=by
 have w4:∀(q2x0:Bool) (q2x1:Int) (q2x2:Int) (q2x3:Int) (q2x4:Int) (q2x5:Int) (q2x6:Int) (q2x7:Int) (q2x8:Int) (q2x9:Int) (q2x10:Int) (q2x11:Int) (q2x12:Int),((n1e k o n p a b c d e q2x0 q2x1 q2x2 q2x3 q2x4 q2x5 q2x6 q2x7 q2x8 q2x9 q2x10 q2x11 q2x12).T.T.T.T.T.T.T.T.T.T.T.T.F.K ⟨tm2 119 [(1,(.ref [(vI (k)),(vI (o)),(vS (n)),(.slice 1 (p) .no),(.slice 4 (a) .no),(.slice 8 (b) .no),(.slice 2 (c) .no),(.slice 5 (d) .no),(.slice 5 (e) .no)])),(9,(.func (.func a1A) [] []))],lm2 119 [],⟨[],[],.none,0⟩⟩).wp Pg cfg0 evp [] (fun r=>∃er,er≠4∧r=⟨oc er,.none,[]⟩):=fun q2x0 q2x1 q2x2 q2x3 q2x4 q2x5 q2x6 q2x7 q2x8 q2x9 q2x10 q2x11 q2x12=>a1j (a2o k o n p a b c d e q2x0 q2x1 q2x2 q2x3 q2x4 q2x5 q2x6 q2x7 q2x8 q2x9 q2x10 q2x11 q2x12) (by
  repeat' first
   |exact b1w
   |exact a1z (by decide)
   |exact a1z (by assumption)
   |refine a1u ?_
   |refine a1h ?_
   |refine a1t ?_
   |refine a1c (d1h _) ?_ (fun er he=>?_)
   |refine a1c (b1D _ _ _) ?_ (fun er he=>?_)
   |refine b1e (fun i0 j0 k0=>?_)
   |refine a1c (c1a hn) ?_ (fun er he=>?_)
   |refine a1c (b1H hn) ?_ (fun er he=>?_)
   |refine a1n (d1q hn) (fun b=>?_)
   |refine a1c (a1V hp) ?_ (fun er he=>?_)
   |refine a1c (a1I hp) ?_ (fun er he=>?_)
   |refine a1n (b1I hp) (fun b=>?_)
   |refine a1c (a1W hp lp) ?_ (fun er he=>?_)
   |refine a1c (a1J hp lp) ?_ (fun er he=>?_)
   |refine a1c ea_ty ?_ (fun er he=>?_)
   |refine a1c eb_exp ?_ (fun er he=>?_)
   |refine a1c ec_con ?_ (fun er he=>?_)
   |refine a1c ed_mod ?_ (fun er he=>?_)
   |refine a1c ee_sig ?_ (fun er he=>?_)
   |refine a1d (fun h=>?_) (fun h=>?_))
 have w3:∀(q2x0:Bool) (q2x1:Int) (q2x2:Int) (q2x3:Int) (q2x4:Int) (q2x5:Int) (q2x6:Int) (q2x7:Int) (q2x8:Int) (q2x9:Int) (q2x10:Int) (q2x11:Int) (q2x12:Int),((n1e k o n p a b c d e q2x0 q2x1 q2x2 q2x3 q2x4 q2x5 q2x6 q2x7 q2x8 q2x9 q2x10 q2x11 q2x12).T.T.T.T.T.T.T.T.T.T.T.T.T.K ⟨tm2 119 [(1,(.ref [(vI (k)),(vI (o)),(vS (n)),(.slice 1 (p) .no),(.slice 4 (a) .no),(.slice 8 (b) .no),(.slice 2 (c) .no),(.slice 5 (d) .no),(.slice 5 (e) .no)])),(9,(.func (.func a1G) [] []))],lm2 119 [],⟨[],[],.none,0⟩⟩).wp Pg cfg0 evp [] (fun r=>∃er,er≠4∧r=⟨oc er,.none,[]⟩):=fun q2x0 q2x1 q2x2 q2x3 q2x4 q2x5 q2x6 q2x7 q2x8 q2x9 q2x10 q2x11 q2x12=>a1j (a2p k o n p a b c d e q2x0 q2x1 q2x2 q2x3 q2x4 q2x5 q2x6 q2x7 q2x8 q2x9 q2x10 q2x11 q2x12) (by
  repeat' first
   |exact b1w
   |exact a1z (by decide)
   |exact a1z (by assumption)
   |exact a1e (w4 _ _ _ _ _ _ _ _ _ _ _ _ _)
   |refine a1u ?_
   |refine a1h ?_
   |refine a1t ?_
   |refine a1c (d1h _) ?_ (fun er he=>?_)
   |refine a1c (b1D _ _ _) ?_ (fun er he=>?_)
   |refine b1e (fun i0 j0 k0=>?_)
   |refine a1c (c1a hn) ?_ (fun er he=>?_)
   |refine a1c (b1H hn) ?_ (fun er he=>?_)
   |refine a1n (d1q hn) (fun b=>?_)
   |refine a1c (a1V hp) ?_ (fun er he=>?_)
   |refine a1c (a1I hp) ?_ (fun er he=>?_)
   |refine a1n (b1I hp) (fun b=>?_)
   |refine a1c (a1W hp lp) ?_ (fun er he=>?_)
   |refine a1c (a1J hp lp) ?_ (fun er he=>?_)
   |refine a1c ea_ty ?_ (fun er he=>?_)
   |refine a1c eb_exp ?_ (fun er he=>?_)
   |refine a1c ec_con ?_ (fun er he=>?_)
   |refine a1c ed_mod ?_ (fun er he=>?_)
   |refine a1c ee_sig ?_ (fun er he=>?_)
   |refine a1d (fun h=>?_) (fun h=>?_))
 have w2:∀(q2x0:Bool) (q2x1:Int) (q2x2:Int) (q2x3:Int) (q2x4:Int) (q2x5:Int) (q2x6:Int) (q2x7:Int) (q2x8:Int) (q2x9:Int) (q2x10:Int) (q2x11:Int) (q2x12:Int),((t1k k o n p a b c d e).K ⟨tm2 119 [(1,(.ref [(vI (k)),(vI (o)),(vS (n)),(.slice 1 (p) .no),(.slice 4 (a) .no),(.slice 8 (b) .no),(.slice 2 (c) .no),(.slice 5 (d) .no),(.slice 5 (e) .no)])),(2,(.lp 2 0 0)),(3,(.lp 3 0 0)),(4,(.lp 4 0 0)),(5,(.lp 5 0 0)),(6,(.lp 6 0 0)),(7,(.lp 7 0 0)),(8,(vB (q2x0)))],lm2 119 [(2,(0,[(vI (q2x1)),(vI (q2x2))])),(3,(0,[(vI (q2x3)),(vI (q2x4))])),(4,(0,[(vI (q2x5)),(vI (q2x6))])),(5,(0,[(vI (q2x7)),(vI (q2x8))])),(6,(0,[(vI (q2x9)),(vI (q2x10))])),(7,(0,[(vI (q2x11)),(vI (q2x12))]))],⟨[],[],.none,0⟩⟩).wp Pg cfg0 evp [] (fun r=>∃er,er≠4∧r=⟨oc er,.none,[]⟩):=fun q2x0 q2x1 q2x2 q2x3 q2x4 q2x5 q2x6 q2x7 q2x8 q2x9 q2x10 q2x11 q2x12=>a1j (a2n k o n p a b c d e q2x0 q2x1 q2x2 q2x3 q2x4 q2x5 q2x6 q2x7 q2x8 q2x9 q2x10 q2x11 q2x12) (by
  repeat' first
   |exact b1w
   |exact a1z (by decide)
   |exact a1z (by assumption)
   |exact a1e (w4 _ _ _ _ _ _ _ _ _ _ _ _ _)
   |exact a1e (w3 _ _ _ _ _ _ _ _ _ _ _ _ _)
   |refine a1u ?_
   |refine a1h ?_
   |refine a1t ?_
   |refine a1c (d1h _) ?_ (fun er he=>?_)
   |refine a1c (b1D _ _ _) ?_ (fun er he=>?_)
   |refine b1e (fun i0 j0 k0=>?_)
   |refine a1c (c1a hn) ?_ (fun er he=>?_)
   |refine a1c (b1H hn) ?_ (fun er he=>?_)
   |refine a1n (d1q hn) (fun b=>?_)
   |refine a1c (a1V hp) ?_ (fun er he=>?_)
   |refine a1c (a1I hp) ?_ (fun er he=>?_)
   |refine a1n (b1I hp) (fun b=>?_)
   |refine a1c (a1W hp lp) ?_ (fun er he=>?_)
   |refine a1c (a1J hp lp) ?_ (fun er he=>?_)
   |refine a1c ea_ty ?_ (fun er he=>?_)
   |refine a1c eb_exp ?_ (fun er he=>?_)
   |refine a1c ec_con ?_ (fun er he=>?_)
   |refine a1c ed_mod ?_ (fun er he=>?_)
   |refine a1c ee_sig ?_ (fun er he=>?_)
   |refine a1d (fun h=>?_) (fun h=>?_))
 have w1:((f2L k o n p a b c d e).K ⟨tm2 119 [(1,(.ref [(vI (k)),(vI (o)),(vS (n)),(.slice 1 (p) .no),(.slice 4 (a) .no),(.slice 8 (b) .no),(.slice 2 (c) .no),(.slice 5 (d) .no),(.slice 5 (e) .no)]))],lm2 119 [],⟨[],[],.none,0⟩⟩).wp Pg cfg0 evp [] (fun r=>∃er,er≠4∧r=⟨oc er,.none,[]⟩):=a1j (a2m k o n p a b c d e) (by
  repeat' first
   |exact b1w
   |exact a1z (by decide)
   |exact a1z (by assumption)
   |exact a1e (w4 _ _ _ _ _ _ _ _ _ _ _ _ _)
   |exact a1e (w3 _ _ _ _ _ _ _ _ _ _ _ _ _)
   |exact a1e (w2 _ _ _ _ _ _ _ _ _ _ _ _ _)
   |refine a1u ?_
   |refine a1h ?_
   |refine a1t ?_
   |refine a1c (d1h _) ?_ (fun er he=>?_)
   |refine a1c (b1D _ _ _) ?_ (fun er he=>?_)
   |refine b1e (fun i0 j0 k0=>?_)
   |refine a1c (c1a hn) ?_ (fun er he=>?_)
   |refine a1c (b1H hn) ?_ (fun er he=>?_)
   |refine a1n (d1q hn) (fun b=>?_)
   |refine a1c (a1V hp) ?_ (fun er he=>?_)
   |refine a1c (a1I hp) ?_ (fun er he=>?_)
   |refine a1n (b1I hp) (fun b=>?_)
   |refine a1c (a1W hp lp) ?_ (fun er he=>?_)
   |refine a1c (a1J hp lp) ?_ (fun er he=>?_)
   |refine a1c ea_ty ?_ (fun er he=>?_)
   |refine a1c eb_exp ?_ (fun er he=>?_)
   |refine a1c ec_con ?_ (fun er he=>?_)
   |refine a1c ed_mod ?_ (fun er he=>?_)
   |refine a1c ee_sig ?_ (fun er he=>?_)
   |refine a1d (fun h=>?_) (fun h=>?_))
 exact d1K (a1j (f2M k o n p a b c d e) (by
  repeat' first
   |exact b1w
   |exact a1z (by decide)
   |exact a1z (by assumption)
   |exact a1e (w4 _ _ _ _ _ _ _ _ _ _ _ _ _)
   |exact a1e (w3 _ _ _ _ _ _ _ _ _ _ _ _ _)
   |exact a1e (w2 _ _ _ _ _ _ _ _ _ _ _ _ _)
   |exact a1e (w1)
   |refine a1u ?_
   |refine a1h ?_
   |refine a1t ?_
   |refine a1c (d1h _) ?_ (fun er he=>?_)
   |refine a1c (b1D _ _ _) ?_ (fun er he=>?_)
   |refine b1e (fun i0 j0 k0=>?_)
   |refine a1c (c1a hn) ?_ (fun er he=>?_)
   |refine a1c (b1H hn) ?_ (fun er he=>?_)
   |refine a1n (d1q hn) (fun b=>?_)
   |refine a1c (a1V hp) ?_ (fun er he=>?_)
   |refine a1c (a1I hp) ?_ (fun er he=>?_)
   |refine a1n (b1I hp) (fun b=>?_)
   |refine a1c (a1W hp lp) ?_ (fun er he=>?_)
   |refine a1c (a1J hp lp) ?_ (fun er he=>?_)
   |refine a1c ea_ty ?_ (fun er he=>?_)
   |refine a1c eb_exp ?_ (fun er he=>?_)
   |refine a1c ec_con ?_ (fun er he=>?_)
   |refine a1c ed_mod ?_ (fun er he=>?_)
   |refine a1c ee_sig ?_ (fun er he=>?_)
   |refine a1d (fun h=>?_) (fun h=>?_)))
theorem a_Mod {k:Int} {p:List (List AV)} {a:List (List AV)} {b:List (List AV)} {c:List (List AV)} (hp:Strs p) (lp:p.length<c1h) (ea_dec:∃er,er≠4∧evp a1x [.slice 9 a .no,.func (.func b1x) [] []] .none []=some ⟨oc er,.none,[]⟩) (ea_exp_1:∃er,er≠4∧evp a1x [.slice 9 a .no,.func (.func b1s) [] []] .none []=some ⟨oc er,.none,[]⟩) (eb_mod:∃er,er≠4∧evp a1P [.slice 5 b .no,.func (.func b1t) [] []] .none []=some ⟨oc er,.none,[]⟩) (ec_sig:∃er,er≠4∧evp a1w [.slice 5 c .no,.func (.func a1Y) [] []] .none []=some ⟨oc er,.none,[]⟩):∃er,er≠4∧evp b1t [.agg [vI k,.slice 1 p .no,.slice 9 a .no,.slice 5 b .no,.slice 5 c .no]] .none []=some ⟨oc er,.none,[]⟩:=by
 have w5:∀(q2x0:Bool) (q3x0:Int) (q3x1:Int),((w1T k p a b c q2x0 q3x0 q3x1).K ⟨tm2 81 [(1,(.ref [(vI (k)),(.slice 1 (p) .no),(.slice 9 (a) .no),(.slice 5 (b) .no),(.slice 5 (c) .no)]))],lm2 81 [],⟨[],[],.none,0⟩⟩).wp Pg cfg0 evp [] (fun r=>∃er,er≠4∧r=⟨oc er,.none,[]⟩):=fun q2x0 q3x0 q3x1=>a1j (a2u k p a b c q2x0 q3x0 q3x1) (by
  repeat' first
   |exact b1w
   |exact a1z (by decide)
   |exact a1z (by assumption)
   |refine a1u ?_
   |refine a1h ?_
   |refine a1t ?_
   |refine a1c (d1h _) ?_ (fun er he=>?_)
   |refine a1c (b1D _ _ _) ?_ (fun er he=>?_)
   |refine b1e (fun i0 j0 k0=>?_)
   |refine a1c (a1V hp) ?_ (fun er he=>?_)
   |refine a1c (a1I hp) ?_ (fun er he=>?_)
   |refine a1n (b1I hp) (fun b=>?_)
   |refine a1c (a1W hp lp) ?_ (fun er he=>?_)
   |refine a1c (a1J hp lp) ?_ (fun er he=>?_)
   |refine a1c ea_dec ?_ (fun er he=>?_)
   |refine a1c ea_exp_1 ?_ (fun er he=>?_)
   |refine a1c eb_mod ?_ (fun er he=>?_)
   |refine a1c ec_sig ?_ (fun er he=>?_)
   |refine a1d (fun h=>?_) (fun h=>?_))
 have w4:∀(q2x0:Bool) (q3x0:Int) (q3x1:Int),((t1n k p a b c q2x0 q3x0 q3x1).K ⟨tm2 81 [(1,(.ref [(vI (k)),(.slice 1 (p) .no),(.slice 9 (a) .no),(.slice 5 (b) .no),(.slice 5 (c) .no)])),(2,(vB (q2x0)))],lm2 81 [],⟨[],[],.none,0⟩⟩).wp Pg cfg0 evp [] (fun r=>∃er,er≠4∧r=⟨oc er,.none,[]⟩):=fun q2x0 q3x0 q3x1=>a1j (a2t k p a b c q2x0 q3x0 q3x1) (by
  repeat' first
   |exact b1w
   |exact a1z (by decide)
   |exact a1z (by assumption)
   |exact a1e (w5 _ _ _)
   |refine a1u ?_
   |refine a1h ?_
   |refine a1t ?_
   |refine a1c (d1h _) ?_ (fun er he=>?_)
   |refine a1c (b1D _ _ _) ?_ (fun er he=>?_)
   |refine b1e (fun i0 j0 k0=>?_)
   |refine a1c (a1V hp) ?_ (fun er he=>?_)
   |refine a1c (a1I hp) ?_ (fun er he=>?_)
   |refine a1n (b1I hp) (fun b=>?_)
   |refine a1c (a1W hp lp) ?_ (fun er he=>?_)
   |refine a1c (a1J hp lp) ?_ (fun er he=>?_)
   |refine a1c ea_dec ?_ (fun er he=>?_)
   |refine a1c ea_exp_1 ?_ (fun er he=>?_)
   |refine a1c eb_mod ?_ (fun er he=>?_)
   |refine a1c ec_sig ?_ (fun er he=>?_)
   |refine a1d (fun h=>?_) (fun h=>?_))
 have w3:∀(q2x0:Bool) (q3x0:Int) (q3x1:Int),((t1m k p a b c q2x0).K ⟨tm2 81 [(1,(.ref [(vI (k)),(.slice 1 (p) .no),(.slice 9 (a) .no),(.slice 5 (b) .no),(.slice 5 (c) .no)])),(2,(vB (q2x0))),(3,(vI (q3x0))),(4,(vI (q3x1)))],lm2 81 [],⟨[],[],.none,0⟩⟩).wp Pg cfg0 evp [] (fun r=>∃er,er≠4∧r=⟨oc er,.none,[]⟩):=fun q2x0 q3x0 q3x1=>a1j (a2s k p a b c q2x0 q3x0 q3x1) (by
  repeat' first
   |exact b1w
   |exact a1z (by decide)
   |exact a1z (by assumption)
   |exact a1e (w5 _ _ _)
   |exact a1e (w4 _ _ _)
   |refine a1u ?_
   |refine a1h ?_
   |refine a1t ?_
   |refine a1c (d1h _) ?_ (fun er he=>?_)
   |refine a1c (b1D _ _ _) ?_ (fun er he=>?_)
   |refine b1e (fun i0 j0 k0=>?_)
   |refine a1c (a1V hp) ?_ (fun er he=>?_)
   |refine a1c (a1I hp) ?_ (fun er he=>?_)
   |refine a1n (b1I hp) (fun b=>?_)
   |refine a1c (a1W hp lp) ?_ (fun er he=>?_)
   |refine a1c (a1J hp lp) ?_ (fun er he=>?_)
   |refine a1c ea_dec ?_ (fun er he=>?_)
   |refine a1c ea_exp_1 ?_ (fun er he=>?_)
   |refine a1c eb_mod ?_ (fun er he=>?_)
   |refine a1c ec_sig ?_ (fun er he=>?_)
   |refine a1d (fun h=>?_) (fun h=>?_))
 have w2:∀(q2x0:Bool),((t1l k p a b c).K ⟨tm2 81 [(1,(.ref [(vI (k)),(.slice 1 (p) .no),(.slice 9 (a) .no),(.slice 5 (b) .no),(.slice 5 (c) .no)])),(2,(vB (q2x0)))],lm2 81 [],⟨[],[],.none,0⟩⟩).wp Pg cfg0 evp [] (fun r=>∃er,er≠4∧r=⟨oc er,.none,[]⟩):=fun q2x0=>a1j (a2r k p a b c q2x0) (by
  repeat' first
   |exact b1w
   |exact a1z (by decide)
   |exact a1z (by assumption)
   |exact a1e (w5 _ _ _)
   |exact a1e (w4 _ _ _)
   |exact a1e (w3 _ _ _)
   |refine a1u ?_
   |refine a1h ?_
   |refine a1t ?_
   |refine a1c (d1h _) ?_ (fun er he=>?_)
   |refine a1c (b1D _ _ _) ?_ (fun er he=>?_)
   |refine b1e (fun i0 j0 k0=>?_)
   |refine a1c (a1V hp) ?_ (fun er he=>?_)
   |refine a1c (a1I hp) ?_ (fun er he=>?_)
   |refine a1n (b1I hp) (fun b=>?_)
   |refine a1c (a1W hp lp) ?_ (fun er he=>?_)
   |refine a1c (a1J hp lp) ?_ (fun er he=>?_)
   |refine a1c ea_dec ?_ (fun er he=>?_)
   |refine a1c ea_exp_1 ?_ (fun er he=>?_)
   |refine a1c eb_mod ?_ (fun er he=>?_)
   |refine a1c ec_sig ?_ (fun er he=>?_)
   |refine a1d (fun h=>?_) (fun h=>?_))
 have w1:((f2N k p a b c).K ⟨tm2 81 [(1,(.ref [(vI (k)),(.slice 1 (p) .no),(.slice 9 (a) .no),(.slice 5 (b) .no),(.slice 5 (c) .no)]))],lm2 81 [],⟨[],[],.none,0⟩⟩).wp Pg cfg0 evp [] (fun r=>∃er,er≠4∧r=⟨oc er,.none,[]⟩):=a1j (a2q k p a b c) (by
  repeat' first
   |exact b1w
   |exact a1z (by decide)
   |exact a1z (by assumption)
   |exact a1e (w5 _ _ _)
   |exact a1e (w4 _ _ _)
   |exact a1e (w3 _ _ _)
   |exact a1e (w2 _)
   |refine a1u ?_
   |refine a1h ?_
   |refine a1t ?_
   |refine a1c (d1h _) ?_ (fun er he=>?_)
   |refine a1c (b1D _ _ _) ?_ (fun er he=>?_)
   |refine b1e (fun i0 j0 k0=>?_)
   |refine a1c (a1V hp) ?_ (fun er he=>?_)
   |refine a1c (a1I hp) ?_ (fun er he=>?_)
   |refine a1n (b1I hp) (fun b=>?_)
   |refine a1c (a1W hp lp) ?_ (fun er he=>?_)
   |refine a1c (a1J hp lp) ?_ (fun er he=>?_)
   |refine a1c ea_dec ?_ (fun er he=>?_)
   |refine a1c ea_exp_1 ?_ (fun er he=>?_)
   |refine a1c eb_mod ?_ (fun er he=>?_)
   |refine a1c ec_sig ?_ (fun er he=>?_)
   |refine a1d (fun h=>?_) (fun h=>?_))
 exact d1K (a1j (f2O k p a b c) (by
  repeat' first
   |exact b1w
   |exact a1z (by decide)
   |exact a1z (by assumption)
   |exact a1e (w5 _ _ _)
   |exact a1e (w4 _ _ _)
   |exact a1e (w3 _ _ _)
   |exact a1e (w2 _)
   |exact a1e (w1)
   |refine a1u ?_
   |refine a1h ?_
   |refine a1t ?_
   |refine a1c (d1h _) ?_ (fun er he=>?_)
   |refine a1c (b1D _ _ _) ?_ (fun er he=>?_)
   |refine b1e (fun i0 j0 k0=>?_)
   |refine a1c (a1V hp) ?_ (fun er he=>?_)
   |refine a1c (a1I hp) ?_ (fun er he=>?_)
   |refine a1n (b1I hp) (fun b=>?_)
   |refine a1c (a1W hp lp) ?_ (fun er he=>?_)
   |refine a1c (a1J hp lp) ?_ (fun er he=>?_)
   |refine a1c ea_dec ?_ (fun er he=>?_)
   |refine a1c ea_exp_1 ?_ (fun er he=>?_)
   |refine a1c eb_mod ?_ (fun er he=>?_)
   |refine a1c ec_sig ?_ (fun er he=>?_)
   |refine a1d (fun h=>?_) (fun h=>?_)))
theorem a_Sig {k:Int} {p:List (List AV)} {a:List (List AV)} {b:List (List AV)} {c:List (List AV)} (hp:Strs p) (lp:p.length<c1h) (ea_spec:∃er,er≠4∧evp a1K [.slice 6 a .no,.func (.func b1F) [] []] .none []=some ⟨oc er,.none,[]⟩) (eb_sig:∃er,er≠4∧evp a1w [.slice 5 b .no,.func (.func a1Y) [] []] .none []=some ⟨oc er,.none,[]⟩) (ec_ty:∃er,er≠4∧evp a1m [.slice 4 c .no,.func (.func a1F) [] []] .none []=some ⟨oc er,.none,[]⟩):∃er,er≠4∧evp a1Y [.agg [vI k,.slice 1 p .no,.slice 6 a .no,.slice 5 b .no,.slice 4 c .no]] .none []=some ⟨oc er,.none,[]⟩:=by
 have w5:∀(q2x0:Int),((w1U k p a b c q2x0).K ⟨tm2 71 [(1,(.ref [(vI (k)),(.slice 1 (p) .no),(.slice 6 (a) .no),(.slice 5 (b) .no),(.slice 4 (c) .no)]))],lm2 71 [],⟨[],[],.none,0⟩⟩).wp Pg cfg0 evp [] (fun r=>∃er,er≠4∧r=⟨oc er,.none,[]⟩):=fun q2x0=>a1j (a2z k p a b c q2x0) (by
  repeat' first
   |exact b1w
   |exact a1z (by decide)
   |exact a1z (by assumption)
   |refine a1u ?_
   |refine a1h ?_
   |refine a1t ?_
   |refine a1c (d1h _) ?_ (fun er he=>?_)
   |refine a1c (b1D _ _ _) ?_ (fun er he=>?_)
   |refine b1e (fun i0 j0 k0=>?_)
   |refine a1c (a1V hp) ?_ (fun er he=>?_)
   |refine a1c (a1I hp) ?_ (fun er he=>?_)
   |refine a1n (b1I hp) (fun b=>?_)
   |refine a1c (a1W hp lp) ?_ (fun er he=>?_)
   |refine a1c (a1J hp lp) ?_ (fun er he=>?_)
   |refine a1c ea_spec ?_ (fun er he=>?_)
   |refine a1c eb_sig ?_ (fun er he=>?_)
   |refine a1c ec_ty ?_ (fun er he=>?_)
   |refine a1d (fun h=>?_) (fun h=>?_))
 have w4:∀(q2x0:Int),((t1q k p a b c q2x0).K ⟨tm2 71 [(1,(.ref [(vI (k)),(.slice 1 (p) .no),(.slice 6 (a) .no),(.slice 5 (b) .no),(.slice 4 (c) .no)]))],lm2 71 [],⟨[],[],.none,0⟩⟩).wp Pg cfg0 evp [] (fun r=>∃er,er≠4∧r=⟨oc er,.none,[]⟩):=fun q2x0=>a1j (a2y k p a b c q2x0) (by
  repeat' first
   |exact b1w
   |exact a1z (by decide)
   |exact a1z (by assumption)
   |exact a1e (w5 _)
   |refine a1u ?_
   |refine a1h ?_
   |refine a1t ?_
   |refine a1c (d1h _) ?_ (fun er he=>?_)
   |refine a1c (b1D _ _ _) ?_ (fun er he=>?_)
   |refine b1e (fun i0 j0 k0=>?_)
   |refine a1c (a1V hp) ?_ (fun er he=>?_)
   |refine a1c (a1I hp) ?_ (fun er he=>?_)
   |refine a1n (b1I hp) (fun b=>?_)
   |refine a1c (a1W hp lp) ?_ (fun er he=>?_)
   |refine a1c (a1J hp lp) ?_ (fun er he=>?_)
   |refine a1c ea_spec ?_ (fun er he=>?_)
   |refine a1c eb_sig ?_ (fun er he=>?_)
   |refine a1c ec_ty ?_ (fun er he=>?_)
   |refine a1d (fun h=>?_) (fun h=>?_))
 have w3:∀(q2x0:Int),((t1p k p a b c q2x0).K ⟨tm2 71 [(1,(.ref [(vI (k)),(.slice 1 (p) .no),(.slice 6 (a) .no),(.slice 5 (b) .no),(.slice 4 (c) .no)]))],lm2 71 [],⟨[],[],.none,0⟩⟩).wp Pg cfg0 evp [] (fun r=>∃er,er≠4∧r=⟨oc er,.none,[]⟩):=fun q2x0=>a1j (a2x k p a b c q2x0) (by
  repeat' first
   |exact b1w
   |exact a1z (by decide)
   |exact a1z (by assumption)
   |exact a1e (w5 _)
   |exact a1e (w4 _)
   |refine a1u ?_
   |refine a1h ?_
   |refine a1t ?_
   |refine a1c (d1h _) ?_ (fun er he=>?_)
   |refine a1c (b1D _ _ _) ?_ (fun er he=>?_)
   |refine b1e (fun i0 j0 k0=>?_)
   |refine a1c (a1V hp) ?_ (fun er he=>?_)
   |refine a1c (a1I hp) ?_ (fun er he=>?_)
   |refine a1n (b1I hp) (fun b=>?_)
   |refine a1c (a1W hp lp) ?_ (fun er he=>?_)
   |refine a1c (a1J hp lp) ?_ (fun er he=>?_)
   |refine a1c ea_spec ?_ (fun er he=>?_)
   |refine a1c eb_sig ?_ (fun er he=>?_)
   |refine a1c ec_ty ?_ (fun er he=>?_)
   |refine a1d (fun h=>?_) (fun h=>?_))
 have w2:∀(q2x0:Int),((t1o k p a b c).K ⟨tm2 71 [(1,(.ref [(vI (k)),(.slice 1 (p) .no),(.slice 6 (a) .no),(.slice 5 (b) .no),(.slice 4 (c) .no)])),(2,(vI (q2x0)))],lm2 71 [],⟨[],[],.none,0⟩⟩).wp Pg cfg0 evp [] (fun r=>∃er,er≠4∧r=⟨oc er,.none,[]⟩):=fun q2x0=>a1j (a2w k p a b c q2x0) (by
  repeat' first
   |exact b1w
   |exact a1z (by decide)
   |exact a1z (by assumption)
   |exact a1e (w5 _)
   |exact a1e (w4 _)
   |exact a1e (w3 _)
   |refine a1u ?_
   |refine a1h ?_
   |refine a1t ?_
   |refine a1c (d1h _) ?_ (fun er he=>?_)
   |refine a1c (b1D _ _ _) ?_ (fun er he=>?_)
   |refine b1e (fun i0 j0 k0=>?_)
   |refine a1c (a1V hp) ?_ (fun er he=>?_)
   |refine a1c (a1I hp) ?_ (fun er he=>?_)
   |refine a1n (b1I hp) (fun b=>?_)
   |refine a1c (a1W hp lp) ?_ (fun er he=>?_)
   |refine a1c (a1J hp lp) ?_ (fun er he=>?_)
   |refine a1c ea_spec ?_ (fun er he=>?_)
   |refine a1c eb_sig ?_ (fun er he=>?_)
   |refine a1c ec_ty ?_ (fun er he=>?_)
   |refine a1d (fun h=>?_) (fun h=>?_))
 have w1:((f2P k p a b c).K ⟨tm2 71 [(1,(.ref [(vI (k)),(.slice 1 (p) .no),(.slice 6 (a) .no),(.slice 5 (b) .no),(.slice 4 (c) .no)]))],lm2 71 [],⟨[],[],.none,0⟩⟩).wp Pg cfg0 evp [] (fun r=>∃er,er≠4∧r=⟨oc er,.none,[]⟩):=a1j (a2v k p a b c) (by
  repeat' first
   |exact b1w
   |exact a1z (by decide)
   |exact a1z (by assumption)
   |exact a1e (w5 _)
   |exact a1e (w4 _)
   |exact a1e (w3 _)
   |exact a1e (w2 _)
   |refine a1u ?_
   |refine a1h ?_
   |refine a1t ?_
   |refine a1c (d1h _) ?_ (fun er he=>?_)
   |refine a1c (b1D _ _ _) ?_ (fun er he=>?_)
   |refine b1e (fun i0 j0 k0=>?_)
   |refine a1c (a1V hp) ?_ (fun er he=>?_)
   |refine a1c (a1I hp) ?_ (fun er he=>?_)
   |refine a1n (b1I hp) (fun b=>?_)
   |refine a1c (a1W hp lp) ?_ (fun er he=>?_)
   |refine a1c (a1J hp lp) ?_ (fun er he=>?_)
   |refine a1c ea_spec ?_ (fun er he=>?_)
   |refine a1c eb_sig ?_ (fun er he=>?_)
   |refine a1c ec_ty ?_ (fun er he=>?_)
   |refine a1d (fun h=>?_) (fun h=>?_))
 exact d1K (a1j (f2Q k p a b c) (by
  repeat' first
   |exact b1w
   |exact a1z (by decide)
   |exact a1z (by assumption)
   |exact a1e (w5 _)
   |exact a1e (w4 _)
   |exact a1e (w3 _)
   |exact a1e (w2 _)
   |exact a1e (w1)
   |refine a1u ?_
   |refine a1h ?_
   |refine a1t ?_
   |refine a1c (d1h _) ?_ (fun er he=>?_)
   |refine a1c (b1D _ _ _) ?_ (fun er he=>?_)
   |refine b1e (fun i0 j0 k0=>?_)
   |refine a1c (a1V hp) ?_ (fun er he=>?_)
   |refine a1c (a1I hp) ?_ (fun er he=>?_)
   |refine a1n (b1I hp) (fun b=>?_)
   |refine a1c (a1W hp lp) ?_ (fun er he=>?_)
   |refine a1c (a1J hp lp) ?_ (fun er he=>?_)
   |refine a1c ea_spec ?_ (fun er he=>?_)
   |refine a1c eb_sig ?_ (fun er he=>?_)
   |refine a1c ec_ty ?_ (fun er he=>?_)
   |refine a1d (fun h=>?_) (fun h=>?_)))
theorem j2N {k:Int} {o:Int} {n:ByteArray} {a:List (List AV)} {b:List (List AV)} {c:List (List AV)} (hn:n.size<c1h) (ea_ty:∃er,er≠4∧evp a1m [.slice 4 a .no,.func (.func a1F) [] []] .none []=some ⟨oc er,.none,[]⟩) (eb_con:∃er,er≠4∧evp a1O [.slice 2 b .no,.func (.func b1y) [] []] .none []=some ⟨oc er,.none,[]⟩) (ec_sig:∃er,er≠4∧evp a1w [.slice 5 c .no,.func (.func a1Y) [] []] .none []=some ⟨oc er,.none,[]⟩):∃er,er≠4∧evp b1F [.agg [vI k,vI o,vS n,.slice 4 a .no,.slice 2 b .no,.slice 5 c .no]] .none []=some ⟨oc er,.none,[]⟩:=by
 have w3:((t1r k o n a b c).K ⟨tm2 107 [(1,(.ref [(vI (k)),(vI (o)),(vS (n)),(.slice 4 (a) .no),(.slice 2 (b) .no),(.slice 5 (c) .no)]))],lm2 107 [],⟨[],[],.none,0⟩⟩).wp Pg cfg0 evp [] (fun r=>∃er,er≠4∧r=⟨oc er,.none,[]⟩):=a1j (w1X k o n a b c) (by
  repeat' first
   |exact b1w
   |exact a1z (by decide)
   |exact a1z (by assumption)
   |refine a1u ?_
   |refine a1h ?_
   |refine a1t ?_
   |refine a1c (d1h _) ?_ (fun er he=>?_)
   |refine a1c (b1D _ _ _) ?_ (fun er he=>?_)
   |refine b1e (fun i0 j0 k0=>?_)
   |refine a1c (c1a hn) ?_ (fun er he=>?_)
   |refine a1c (b1H hn) ?_ (fun er he=>?_)
   |refine a1n (d1q hn) (fun b=>?_)
   |refine a1c ea_ty ?_ (fun er he=>?_)
   |refine a1c eb_con ?_ (fun er he=>?_)
   |refine a1c ec_sig ?_ (fun er he=>?_)
   |refine a1d (fun h=>?_) (fun h=>?_))
 have w2:((o1w k o n a b c).K ⟨tm2 107 [(1,(.ref [(vI (k)),(vI (o)),(vS (n)),(.slice 4 (a) .no),(.slice 2 (b) .no),(.slice 5 (c) .no)]))],lm2 107 [],⟨[],[],.none,0⟩⟩).wp Pg cfg0 evp [] (fun r=>∃er,er≠4∧r=⟨oc er,.none,[]⟩):=a1j (w1W k o n a b c) (by
  repeat' first
   |exact b1w
   |exact a1z (by decide)
   |exact a1z (by assumption)
   |exact a1e (w3)
   |refine a1u ?_
   |refine a1h ?_
   |refine a1t ?_
   |refine a1c (d1h _) ?_ (fun er he=>?_)
   |refine a1c (b1D _ _ _) ?_ (fun er he=>?_)
   |refine b1e (fun i0 j0 k0=>?_)
   |refine a1c (c1a hn) ?_ (fun er he=>?_)
   |refine a1c (b1H hn) ?_ (fun er he=>?_)
   |refine a1n (d1q hn) (fun b=>?_)
   |refine a1c ea_ty ?_ (fun er he=>?_)
   |refine a1c eb_con ?_ (fun er he=>?_)
   |refine a1c ec_sig ?_ (fun er he=>?_)
   |refine a1d (fun h=>?_) (fun h=>?_))
 have w1:((y1c k o n a b c).K ⟨tm2 107 [(1,(.ref [(vI (k)),(vI (o)),(vS (n)),(.slice 4 (a) .no),(.slice 2 (b) .no),(.slice 5 (c) .no)]))],lm2 107 [],⟨[],[],.none,0⟩⟩).wp Pg cfg0 evp [] (fun r=>∃er,er≠4∧r=⟨oc er,.none,[]⟩):=a1j (w1V k o n a b c) (by
  repeat' first
   |exact b1w
   |exact a1z (by decide)
   |exact a1z (by assumption)
   |exact a1e (w3)
   |exact a1e (w2)
   |refine a1u ?_
   |refine a1h ?_
   |refine a1t ?_
   |refine a1c (d1h _) ?_ (fun er he=>?_)
   |refine a1c (b1D _ _ _) ?_ (fun er he=>?_)
   |refine b1e (fun i0 j0 k0=>?_)
   |refine a1c (c1a hn) ?_ (fun er he=>?_)
   |refine a1c (b1H hn) ?_ (fun er he=>?_)
   |refine a1n (d1q hn) (fun b=>?_)
   |refine a1c ea_ty ?_ (fun er he=>?_)
   |refine a1c eb_con ?_ (fun er he=>?_)
   |refine a1c ec_sig ?_ (fun er he=>?_)
   |refine a1d (fun h=>?_) (fun h=>?_))
 exact d1K (a1j (d2G k o n a b c) (by
  repeat' first
   |exact b1w
   |exact a1z (by decide)
   |exact a1z (by assumption)
   |exact a1e (w3)
   |exact a1e (w2)
   |exact a1e (w1)
   |refine a1u ?_
   |refine a1h ?_
   |refine a1t ?_
   |refine a1c (d1h _) ?_ (fun er he=>?_)
   |refine a1c (b1D _ _ _) ?_ (fun er he=>?_)
   |refine b1e (fun i0 j0 k0=>?_)
   |refine a1c (c1a hn) ?_ (fun er he=>?_)
   |refine a1c (b1H hn) ?_ (fun er he=>?_)
   |refine a1n (d1q hn) (fun b=>?_)
   |refine a1c ea_ty ?_ (fun er he=>?_)
   |refine a1c eb_con ?_ (fun er he=>?_)
   |refine a1c ec_sig ?_ (fun er he=>?_)
   |refine a1d (fun h=>?_) (fun h=>?_)))
theorem j2O {k:Int} {o:Int} {n:ByteArray} {p:List (List AV)} {a:List (List AV)} {b:List (List AV)} {c:List (List AV)} {d:List (List AV)} {e:List (List AV)} (hn:n.size<c1h) (hp:Strs p) (lp:p.length<c1h) (ea_ty:∃er,er≠4∧evp a1m [.slice 4 a .no,.func (.func a1F) [] []] .none []=some ⟨oc er,.none,[]⟩) (eb_exp:∃er,er≠4∧evp a1N [.slice 8 b .no,.func (.func b1c) [] []] .none []=some ⟨oc er,.none,[]⟩) (ec_con:∃er,er≠4∧evp a1O [.slice 2 c .no,.func (.func b1y) [] []] .none []=some ⟨oc er,.none,[]⟩) (ed_mod:∃er,er≠4∧evp a1P [.slice 5 d .no,.func (.func b1t) [] []] .none []=some ⟨oc er,.none,[]⟩) (ee_sig:∃er,er≠4∧evp a1w [.slice 5 e .no,.func (.func a1Y) [] []] .none []=some ⟨oc er,.none,[]⟩):∃er,er≠4∧evp b1s [.agg [vI k,vI o,vS n,.slice 1 p .no,.slice 4 a .no,.slice 8 b .no,.slice 2 c .no,.slice 5 d .no,.slice 5 e .no]] .none []=some ⟨oc er,.none,[]⟩:=by
 exact d1K (a1j (d2H k o n p a b c d e) (by
  repeat' first
   |exact b1w
   |exact a1z (by decide)
   |exact a1z (by assumption)
   |refine a1u ?_
   |refine a1h ?_
   |refine a1t ?_
   |refine a1c (d1h _) ?_ (fun er he=>?_)
   |refine a1c (b1D _ _ _) ?_ (fun er he=>?_)
   |refine b1e (fun i0 j0 k0=>?_)
   |refine a1c (c1a hn) ?_ (fun er he=>?_)
   |refine a1c (b1H hn) ?_ (fun er he=>?_)
   |refine a1n (d1q hn) (fun b=>?_)
   |refine a1c (a1V hp) ?_ (fun er he=>?_)
   |refine a1c (a1I hp) ?_ (fun er he=>?_)
   |refine a1n (b1I hp) (fun b=>?_)
   |refine a1c (a1W hp lp) ?_ (fun er he=>?_)
   |refine a1c (a1J hp lp) ?_ (fun er he=>?_)
   |refine a1c ea_ty ?_ (fun er he=>?_)
   |refine a1c eb_exp ?_ (fun er he=>?_)
   |refine a1c ec_con ?_ (fun er he=>?_)
   |refine a1c ed_mod ?_ (fun er he=>?_)
   |refine a1c ee_sig ?_ (fun er he=>?_)
   |refine a1d (fun h=>?_) (fun h=>?_)))
end Go.Proofs.Ck
end

section
/- what the walker does: nodes counted, the greatest depth -/
open Go Go.Eng
namespace Go.Proofs.Ck
set_option linter.unusedVariables false
set_option linter.unusedSimpArgs false
set_option maxRecDepth 100000
def BIG:Nat:=4611686018427387904
def WOk (f:Nat) (arg:List Row→List AV) (ans:AV) (ty:Nat) (N:Nat):Prop:=∀l:List Row,cnts l≤N→(∀r∈l,Has Pg ty r)→∀n d m:Nat,n+cnts l<BIG→d+cnts l<BIG→
 evp f (arg l) .none [[vI n,vI d,vI m]]=some ⟨.ret ans,.none,[[vI (n+cnts l:Nat),vI d,vI (wms m d l:Nat)]]⟩
structure WAll (N:Nat):Prop where
 tys:WOk a1M (fun l=>[.ptr 0 0,.slice 4 (avss l) .no]) (.ptr 0 0) c1e N
 pats:WOk b1Q (fun l=>[.ptr 0 0,.slice 5 (avss l) .no]) (.ptr 0 0) c1A N
 exps:WOk b1h (fun l=>[.ptr 0 0,.slice 8 (avss l) .no]) (.ptr 0 0) c1z N
 cons:WOk c1s (fun l=>[.ptr 0 0,.slice 2 (avss l) .no]) (.ptr 0 0) e1f N
 decs:WOk b1R (fun l=>[.ptr 0 0,.slice 9 (avss l) .no]) (.ptr 0 0) c1u N
 mods:WOk c1t (fun l=>[.ptr 0 0,.slice 5 (avss l) .no]) (.ptr 0 0) e1g N
 sigs:WOk b1S (fun l=>[.ptr 0 0,.slice 5 (avss l) .no]) (.ptr 0 0) d1o N
 specs:WOk a1K (fun l=>[.slice 6 (avss l) .no,(.func (.func b1u) [] [(.ref [(.ptr 0 0)])])]) (.tuple []) d1G N
@[irreducible] noncomputable def f2z (rows:List (List AV)) (n d m:Int):KT:=kt0 a1M [.ptr 0 0,.slice 4 rows .no] [[vI n,vI d,vI m]]
@[irreducible] noncomputable def x1R (rows:List (List AV)) (n d m:Int):KT:=kt0 b1Q [.ptr 0 0,.slice 5 rows .no] [[vI n,vI d,vI m]]
@[irreducible] noncomputable def x1S (rows:List (List AV)) (n d m:Int):KT:=kt0 b1h [.ptr 0 0,.slice 8 rows .no] [[vI n,vI d,vI m]]
@[irreducible] noncomputable def x1T (rows:List (List AV)) (n d m:Int):KT:=kt0 c1s [.ptr 0 0,.slice 2 rows .no] [[vI n,vI d,vI m]]
@[irreducible] noncomputable def x1U (rows:List (List AV)) (n d m:Int):KT:=kt0 b1R [.ptr 0 0,.slice 9 rows .no] [[vI n,vI d,vI m]]
@[irreducible] noncomputable def x1V (rows:List (List AV)) (n d m:Int):KT:=kt0 c1t [.ptr 0 0,.slice 5 rows .no] [[vI n,vI d,vI m]]
@[irreducible] noncomputable def x1W (rows:List (List AV)) (n d m:Int):KT:=kt0 b1S [.ptr 0 0,.slice 5 rows .no] [[vI n,vI d,vI m]]
@[irreducible] noncomputable def s1M (rows:List (List AV)) (n d m:Int):KT:=kt0 a1K [.slice 6 rows .no,(.func (.func b1u) [] [(.ref [(.ptr 0 0)])])] [[vI n,vI d,vI m]]
theorem c2M (rows:List
 (List AV)) (n:Int) (d:Int) (m:Int) (n':Int) (d':Int) (m':Int) (i:Nat):KT.round Pg cfg0 rs0 kc0 (f2z rows n d m) {tmps:=tm2 16 [(1,AV.func (Fn.func c1C) [] [AV.ref [AV.ptr 0 0]]),(6,AV.slice 4 rows Own.no),(7,vI (↑rows.length:Int)),(8,vI (↑i:Int))],lh:=lm2 16 [],g:={H:=[[vI n',vI d',vI m']],defers:=[],rm:=RM.none,base:=1}}=
 (.branch (decide ((↑i:Int)<(↑rows.length:Int)))
 (.exI fun i1=>
 (.exS fun s=>
 (.exR fun l=>
 (.exR fun l1=>
 (.row (rows) ((↑i:Int)) [(vI (i1)),(vS (s)),(.slice 1 (l) .no),(.slice 4 (l1) .no)]
 (.exI fun i2=>
 (.exI fun i3=>
 (.exI fun i4=>
 (.call a1M [(.ptr 0 0),(.slice 4 (l1) .no)] .none [[(vI (IntKind.i64.wrap (n'+1))),(vI (IntKind.i64.wrap (d'+1))),(vI (if IntKind.i64.wrap (d'+1)>m' then IntKind.i64.wrap (d'+1) else m'))]] ⟨(.ret (.ptr 0 0)),.none,[[(vI (i2)),(vI (i3)),(vI (i4))]]⟩
 (.need true
 (.need true
 (.need true
 (.done ⟨tm2 16 [(1,(.func (.func c1C) [] [(.ref [(.ptr 0 0)])])),(6,(.slice 4 (rows) .no)),(7,(vI ((↑rows.length:Int)))),(8,(vI (IntKind.i64.wrap ((↑i:Int)+1))))],lm2 16 [],⟨[[(vI (i2)),(vI (IntKind.i64.wrap (i3-1))),(vI (i4))]],[],.none,1⟩⟩)))))))))))))
 (.out (.need true
 (.need true
 (.ret ⟨(.ret (.ptr 0 0)),.none,[[(vI (n')),(vI (d')),(vI (m'))]]⟩))))):=by kernel_rfl
theorem z1F (rows:List
 (List AV)) (n:Int) (d:Int) (m:Int) (n':Int) (d':Int) (m':Int) (i:Nat):KT.round Pg cfg0 rs0 kc0 (x1R rows n d m) {tmps:=tm2 16 [(1,AV.func (Fn.func e1J) [] [AV.ref [AV.ptr 0 0]]),(6,AV.slice 5 rows Own.no),(7,vI (↑rows.length:Int)),(8,vI (↑i:Int))],lh:=lm2 16 [],g:={H:=[[vI n',vI d',vI m']],defers:=[],rm:=RM.none,base:=1}}=
 (.branch (decide ((↑i:Int)<(↑rows.length:Int)))
 (.exI fun i1=>
 (.exS fun s=>
 (.exR fun l=>
 (.exI fun i2=>
 (.exR fun l1=>
 (.row (rows) ((↑i:Int)) [(vI (i1)),(vS (s)),(.slice 1 (l) .no),(vI (i2)),(.slice 5 (l1) .no)]
 (.exI fun i3=>
 (.exI fun i4=>
 (.exI fun i5=>
 (.call b1Q [(.ptr 0 0),(.slice 5 (l1) .no)] .none [[(vI (IntKind.i64.wrap (n'+1))),(vI (IntKind.i64.wrap (d'+1))),(vI (if IntKind.i64.wrap (d'+1)>m' then IntKind.i64.wrap (d'+1) else m'))]] ⟨(.ret (.ptr 0 0)),.none,[[(vI (i3)),(vI (i4)),(vI (i5))]]⟩
 (.need true
 (.need true
 (.need true
 (.done ⟨tm2 16 [(1,(.func (.func e1J) [] [(.ref [(.ptr 0 0)])])),(6,(.slice 5 (rows) .no)),(7,(vI ((↑rows.length:Int)))),(8,(vI (IntKind.i64.wrap ((↑i:Int)+1))))],lm2 16 [],⟨[[(vI (i3)),(vI (IntKind.i64.wrap (i4-1))),(vI (i5))]],[],.none,1⟩⟩))))))))))))))
 (.out (.need true
 (.need true
 (.ret ⟨(.ret (.ptr 0 0)),.none,[[(vI (n')),(vI (d')),(vI (m'))]]⟩))))):=by kernel_rfl
theorem z1G (rows:List
 (List AV)) (n:Int) (d:Int) (m:Int) (n':Int) (d':Int) (m':Int) (i:Nat):KT.round Pg cfg0 rs0 kc0 (x1S rows n d m) {tmps:=tm2 16 [(1,AV.func (Fn.func c1v) [] [AV.ref [AV.ptr 0 0]]),(6,AV.slice 8 rows Own.no),(7,vI (↑rows.length:Int)),(8,vI (↑i:Int))],lh:=lm2 16 [],g:={H:=[[vI n',vI d',vI m']],defers:=[],rm:=RM.none,base:=1}}=
 (.branch (decide ((↑i:Int)<(↑rows.length:Int)))
 (.exI fun i1=>
 (.exI fun i2=>
 (.exI fun i3=>
 (.exR fun l=>
 (.exR fun l1=>
 (.exR fun l2=>
 (.exR fun l3=>
 (.exR fun l4=>
 (.row (rows) ((↑i:Int)) [(vI (i1)),(vI (i2)),(vI (i3)),(.slice 1 (l) .no),(.slice 5 (l1) .no),(.slice 8 (l2) .no),(.slice 9 (l3) .no),(.slice 4 (l4) .no)]
 (.exI fun i4=>
 (.exI fun i5=>
 (.exI fun i6=>
 (.call b1Q [(.ptr 0 0),(.slice 5 (l1) .no)] .none [[(vI (IntKind.i64.wrap (n'+1))),(vI (IntKind.i64.wrap (d'+1))),(vI (if IntKind.i64.wrap (d'+1)>m' then IntKind.i64.wrap (d'+1) else m'))]] ⟨(.ret (.ptr 0 0)),.none,[[(vI (i4)),(vI (i5)),(vI (i6))]]⟩
 (.exI fun i7=>
 (.exI fun i8=>
 (.exI fun i9=>
 (.call b1h [(.ptr 0 0),(.slice 8 (l2) .no)] .none [[(vI (i4)),(vI (i5)),(vI (i6))]] ⟨(.ret (.ptr 0 0)),.none,[[(vI (i7)),(vI (i8)),(vI (i9))]]⟩
 (.exI fun i10=>
 (.exI fun i11=>
 (.exI fun i12=>
 (.call b1R [(.ptr 0 0),(.slice 9 (l3) .no)] .none [[(vI (i7)),(vI (i8)),(vI (i9))]] ⟨(.ret (.ptr 0 0)),.none,[[(vI (i10)),(vI (i11)),(vI (i12))]]⟩
 (.exI fun i13=>
 (.exI fun i14=>
 (.exI fun i15=>
 (.call a1M [(.ptr 0 0),(.slice 4 (l4) .no)] .none [[(vI (i10)),(vI (i11)),(vI (i12))]] ⟨(.ret (.ptr 0 0)),.none,[[(vI (i13)),(vI (i14)),(vI (i15))]]⟩
 (.need true
 (.need true
 (.need true
 (.done ⟨tm2 16 [(1,(.func (.func c1v) [] [(.ref [(.ptr 0 0)])])),(6,(.slice 8 (rows) .no)),(7,(vI ((↑rows.length:Int)))),(8,(vI (IntKind.i64.wrap ((↑i:Int)+1))))],lm2 16 [],⟨[[(vI (i13)),(vI (IntKind.i64.wrap (i14-1))),(vI (i15))]],[],.none,1⟩⟩)))))))))))))))))))))))))))))
 (.out (.need true
 (.need true
 (.ret ⟨(.ret (.ptr 0 0)),.none,[[(vI (n')),(vI (d')),(vI (m'))]]⟩))))):=by kernel_rfl
theorem z1H (rows:List
 (List AV)) (n:Int) (d:Int) (m:Int) (n':Int) (d':Int) (m':Int) (i:Nat):KT.round Pg cfg0 rs0 kc0 (x1T rows n d m) {tmps:=tm2 16 [(1,AV.func (Fn.func e1L) [] [AV.ref [AV.ptr 0 0]]),(6,AV.slice 2 rows Own.no),(7,vI (↑rows.length:Int)),(8,vI (↑i:Int))],lh:=lm2 16 [],g:={H:=[[vI n',vI d',vI m']],defers:=[],rm:=RM.none,base:=1}}=
 (.branch (decide ((↑i:Int)<(↑rows.length:Int)))
 (.exS fun s=>
 (.exR fun l=>
 (.row (rows) ((↑i:Int)) [(vS (s)),(.slice 4 (l) .no)]
 (.exI fun i1=>
 (.exI fun i2=>
 (.exI fun i3=>
 (.call a1M [(.ptr 0 0),(.slice 4 (l) .no)] .none [[(vI (IntKind.i64.wrap (n'+1))),(vI (IntKind.i64.wrap (d'+1))),(vI (if IntKind.i64.wrap (d'+1)>m' then IntKind.i64.wrap (d'+1) else m'))]] ⟨(.ret (.ptr 0 0)),.none,[[(vI (i1)),(vI (i2)),(vI (i3))]]⟩
 (.need true
 (.need true
 (.need true
 (.done ⟨tm2 16 [(1,(.func (.func e1L) [] [(.ref [(.ptr 0 0)])])),(6,(.slice 2 (rows) .no)),(7,(vI ((↑rows.length:Int)))),(8,(vI (IntKind.i64.wrap ((↑i:Int)+1))))],lm2 16 [],⟨[[(vI (i1)),(vI (IntKind.i64.wrap (i2-1))),(vI (i3))]],[],.none,1⟩⟩)))))))))))
 (.out (.need true
 (.need true
 (.ret ⟨(.ret (.ptr 0 0)),.none,[[(vI (n')),(vI (d')),(vI (m'))]]⟩))))):=by kernel_rfl
theorem z1I (rows:List
 (List AV)) (n:Int) (d:Int) (m:Int) (n':Int) (d':Int) (m':Int) (i:Nat):KT.round Pg cfg0 rs0 kc0 (x1U rows n d m) {tmps:=tm2 16 [(1,AV.func (Fn.func e1K) [] [AV.ref [AV.ptr 0 0]]),(6,AV.slice 9 rows Own.no),(7,vI (↑rows.length:Int)),(8,vI (↑i:Int))],lh:=lm2 16 [],g:={H:=[[vI n',vI d',vI m']],defers:=[],rm:=RM.none,base:=1}}=
 (.branch (decide ((↑i:Int)<(↑rows.length:Int)))
 (.exI fun i1=>
 (.exI fun i2=>
 (.exS fun s=>
 (.exR fun l=>
 (.exR fun l1=>
 (.exR fun l2=>
 (.exR fun l3=>
 (.exR fun l4=>
 (.exR fun l5=>
 (.row (rows) ((↑i:Int)) [(vI (i1)),(vI (i2)),(vS (s)),(.slice 1 (l) .no),(.slice 4 (l1) .no),(.slice 8 (l2) .no),(.slice 2 (l3) .no),(.slice 5 (l4) .no),(.slice 5 (l5) .no)]
 (.exI fun i3=>
 (.exI fun i4=>
 (.exI fun i5=>
 (.call a1M [(.ptr 0 0),(.slice 4 (l1) .no)] .none [[(vI (IntKind.i64.wrap (n'+1))),(vI (IntKind.i64.wrap (d'+1))),(vI (if IntKind.i64.wrap (d'+1)>m' then IntKind.i64.wrap (d'+1) else m'))]] ⟨(.ret (.ptr 0 0)),.none,[[(vI (i3)),(vI (i4)),(vI (i5))]]⟩
 (.exI fun i6=>
 (.exI fun i7=>
 (.exI fun i8=>
 (.call b1h [(.ptr 0 0),(.slice 8 (l2) .no)] .none [[(vI (i3)),(vI (i4)),(vI (i5))]] ⟨(.ret (.ptr 0 0)),.none,[[(vI (i6)),(vI (i7)),(vI (i8))]]⟩
 (.exI fun i9=>
 (.exI fun i10=>
 (.exI fun i11=>
 (.call c1s [(.ptr 0 0),(.slice 2 (l3) .no)] .none [[(vI (i6)),(vI (i7)),(vI (i8))]] ⟨(.ret (.ptr 0 0)),.none,[[(vI (i9)),(vI (i10)),(vI (i11))]]⟩
 (.exI fun i12=>
 (.exI fun i13=>
 (.exI fun i14=>
 (.call c1t [(.ptr 0 0),(.slice 5 (l4) .no)] .none [[(vI (i9)),(vI (i10)),(vI (i11))]] ⟨(.ret (.ptr 0 0)),.none,[[(vI (i12)),(vI (i13)),(vI (i14))]]⟩
 (.exI fun i15=>
 (.exI fun i16=>
 (.exI fun i17=>
 (.call b1S [(.ptr 0 0),(.slice 5 (l5) .no)] .none [[(vI (i12)),(vI (i13)),(vI (i14))]] ⟨(.ret (.ptr 0 0)),.none,[[(vI (i15)),(vI (i16)),(vI (i17))]]⟩
 (.need true
 (.need true
 (.need true
 (.done ⟨tm2 16 [(1,(.func (.func e1K) [] [(.ref [(.ptr 0 0)])])),(6,(.slice 9 (rows) .no)),(7,(vI ((↑rows.length:Int)))),(8,(vI (IntKind.i64.wrap ((↑i:Int)+1))))],lm2 16 [],⟨[[(vI (i15)),(vI (IntKind.i64.wrap (i16-1))),(vI (i17))]],[],.none,1⟩⟩))))))))))))))))))))))))))))))))))
 (.out (.need true
 (.need true
 (.ret ⟨(.ret (.ptr 0 0)),.none,[[(vI (n')),(vI (d')),(vI (m'))]]⟩))))):=by kernel_rfl
theorem z1J (rows:List
 (List AV)) (n:Int) (d:Int) (m:Int) (n':Int) (d':Int) (m':Int) (i:Nat):KT.round Pg cfg0 rs0 kc0 (x1V rows n d m) {tmps:=tm2 16 [(1,AV.func (Fn.func e1M) [] [AV.ref [AV.ptr 0 0]]),(6,AV.slice 5 rows Own.no),(7,vI (↑rows.length:Int)),(8,vI (↑i:Int))],lh:=lm2 16 [],g:={H:=[[vI n',vI d',vI m']],defers:=[],rm:=RM.none,base:=1}}=
 (.branch (decide ((↑i:Int)<(↑rows.length:Int)))
 (.exI fun i1=>
 (.exR fun l=>
 (.exR fun l1=>
 (.exR fun l2=>
 (.exR fun l3=>
 (.row (rows) ((↑i:Int)) [(vI (i1)),(.slice 1 (l) .no),(.slice 9 (l1) .no),(.slice 5 (l2) .no),(.slice 5 (l3) .no)]
 (.exI fun i2=>
 (.exI fun i3=>
 (.exI fun i4=>
 (.call b1R [(.ptr 0 0),(.slice 9 (l1) .no)] .none [[(vI (IntKind.i64.wrap (n'+1))),(vI (IntKind.i64.wrap (d'+1))),(vI (if IntKind.i64.wrap (d'+1)>m' then IntKind.i64.wrap (d'+1) else m'))]] ⟨(.ret (.ptr 0 0)),.none,[[(vI (i2)),(vI (i3)),(vI (i4))]]⟩
 (.exI fun i5=>
 (.exI fun i6=>
 (.exI fun i7=>
 (.call c1t [(.ptr 0 0),(.slice 5 (l2) .no)] .none [[(vI (i2)),(vI (i3)),(vI (i4))]] ⟨(.ret (.ptr 0 0)),.none,[[(vI (i5)),(vI (i6)),(vI (i7))]]⟩
 (.exI fun i8=>
 (.exI fun i9=>
 (.exI fun i10=>
 (.call b1S [(.ptr 0 0),(.slice 5 (l3) .no)] .none [[(vI (i5)),(vI (i6)),(vI (i7))]] ⟨(.ret (.ptr 0 0)),.none,[[(vI (i8)),(vI (i9)),(vI (i10))]]⟩
 (.need true
 (.need true
 (.need true
 (.done ⟨tm2 16 [(1,(.func (.func e1M) [] [(.ref [(.ptr 0 0)])])),(6,(.slice 5 (rows) .no)),(7,(vI ((↑rows.length:Int)))),(8,(vI (IntKind.i64.wrap ((↑i:Int)+1))))],lm2 16 [],⟨[[(vI (i8)),(vI (IntKind.i64.wrap (i9-1))),(vI (i10))]],[],.none,1⟩⟩))))))))))))))))))))))
 (.out (.need true
 (.need true
 (.ret ⟨(.ret (.ptr 0 0)),.none,[[(vI (n')),(vI (d')),(vI (m'))]]⟩))))):=by kernel_rfl
theorem z1K (rows:List
 (List AV)) (n:Int) (d:Int) (m:Int) (n':Int) (d':Int) (m':Int) (i:Nat):KT.round Pg cfg0 rs0 kc0 (x1W rows n d m) {tmps:=tm2 16 [(1,AV.func (Fn.func e1N) [] [AV.ref [AV.ptr 0 0]]),(6,AV.slice 5 rows Own.no),(7,vI (↑rows.length:Int)),(8,vI (↑i:Int))],lh:=lm2 16 [],g:={H:=[[vI n',vI d',vI m']],defers:=[],rm:=RM.none,base:=1}}=
 (.branch (decide ((↑i:Int)<(↑rows.length:Int)))
 (.exI fun i1=>
 (.exR fun l=>
 (.exR fun l1=>
 (.exR fun l2=>
 (.exR fun l3=>
 (.row (rows) ((↑i:Int)) [(vI (i1)),(.slice 1 (l) .no),(.slice 6 (l1) .no),(.slice 5 (l2) .no),(.slice 4 (l3) .no)]
 (.exI fun i2=>
 (.exI fun i3=>
 (.exI fun i4=>
 (.call a1K [(.slice 6 (l1) .no),(.func (.func b1u) [] [(.ref [(.ptr 0 0)])])] .none [[(vI (IntKind.i64.wrap (n'+1))),(vI (IntKind.i64.wrap (d'+1))),(vI (if IntKind.i64.wrap (d'+1)>m' then IntKind.i64.wrap (d'+1) else m'))]] ⟨(.ret (.tuple [])),.none,[[(vI (i2)),(vI (i3)),(vI (i4))]]⟩
 (.exI fun i5=>
 (.exI fun i6=>
 (.exI fun i7=>
 (.call b1S [(.ptr 0 0),(.slice 5 (l2) .no)] .none [[(vI (i2)),(vI (i3)),(vI (i4))]] ⟨(.ret (.ptr 0 0)),.none,[[(vI (i5)),(vI (i6)),(vI (i7))]]⟩
 (.exI fun i8=>
 (.exI fun i9=>
 (.exI fun i10=>
 (.call a1M [(.ptr 0 0),(.slice 4 (l3) .no)] .none [[(vI (i5)),(vI (i6)),(vI (i7))]] ⟨(.ret (.ptr 0 0)),.none,[[(vI (i8)),(vI (i9)),(vI (i10))]]⟩
 (.need true
 (.need true
 (.need true
 (.done ⟨tm2 16 [(1,(.func (.func e1N) [] [(.ref [(.ptr 0 0)])])),(6,(.slice 5 (rows) .no)),(7,(vI ((↑rows.length:Int)))),(8,(vI (IntKind.i64.wrap ((↑i:Int)+1))))],lm2 16 [],⟨[[(vI (i8)),(vI (IntKind.i64.wrap (i9-1))),(vI (i10))]],[],.none,1⟩⟩))))))))))))))))))))))
 (.out (.need true
 (.need true
 (.ret ⟨(.ret (.ptr 0 0)),.none,[[(vI (n')),(vI (d')),(vI (m'))]]⟩))))):=by kernel_rfl
theorem w1G (rows:List
 (List
 AV)) (n:Int) (d:Int) (m:Int) (n':Int) (d':Int) (m':Int) (i:Nat):KT.round Pg cfg0 rs0 kc0 (s1M rows n d m) {tmps:=tm2 16 [(1,AV.func (Fn.func b1u) [] [AV.ref [AV.ptr 0 0]]),(6,AV.slice 6 rows Own.no),(7,vI (↑rows.length:Int)),(8,vI (↑i:Int))],lh:=lm2 16 [],g:={H:=[[vI n',vI d',vI m']],defers:=[],rm:=RM.none,base:=1}}=
 (.branch (decide ((↑i:Int)<(↑rows.length:Int)))
 (.exI fun i1=>
 (.exI fun i2=>
 (.exS fun s=>
 (.exR fun l=>
 (.exR fun l1=>
 (.exR fun l2=>
 (.row (rows) ((↑i:Int)) [(vI (i1)),(vI (i2)),(vS (s)),(.slice 4 (l) .no),(.slice 2 (l1) .no),(.slice 5 (l2) .no)]
 (.exI fun i3=>
 (.exI fun i4=>
 (.exI fun i5=>
 (.call a1M [(.ptr 0 0),(.slice 4 (l) .no)] .none [[(vI (IntKind.i64.wrap (n'+1))),(vI (IntKind.i64.wrap (d'+1))),(vI (if IntKind.i64.wrap (d'+1)>m' then IntKind.i64.wrap (d'+1) else m'))]] ⟨(.ret (.ptr 0 0)),.none,[[(vI (i3)),(vI (i4)),(vI (i5))]]⟩
 (.exI fun i6=>
 (.exI fun i7=>
 (.exI fun i8=>
 (.call c1s [(.ptr 0 0),(.slice 2 (l1) .no)] .none [[(vI (i3)),(vI (i4)),(vI (i5))]] ⟨(.ret (.ptr 0 0)),.none,[[(vI (i6)),(vI (i7)),(vI (i8))]]⟩
 (.exI fun i9=>
 (.exI fun i10=>
 (.exI fun i11=>
 (.call b1S [(.ptr 0 0),(.slice 5 (l2) .no)] .none [[(vI (i6)),(vI (i7)),(vI (i8))]] ⟨(.ret (.ptr 0 0)),.none,[[(vI (i9)),(vI (i10)),(vI (i11))]]⟩
 (.need true
 (.need true
 (.need true
 (.done ⟨tm2 16 [(1,(.func (.func b1u) [] [(.ref [(.ptr 0 0)])])),(6,(.slice 6 (rows) .no)),(7,(vI ((↑rows.length:Int)))),(8,(vI (IntKind.i64.wrap ((↑i:Int)+1))))],lm2 16 [],⟨[[(vI (i9)),(vI (IntKind.i64.wrap (i10-1))),(vI (i11))]],[],.none,1⟩⟩)))))))))))))))))))))))
 (.out (.need true
 (.ret ⟨(.ret (.tuple [])),.none,[[(vI (n')),(vI (d')),(vI (m'))]]⟩)))):=by kernel_rfl
theorem f2A {rows:List (List AV)} {n d m:Int} {r:CRes} (h:(f2z rows n d m).wp Pg cfg0 evp [] (fun x=>x=r)):evp a1M [.ptr 0 0,.slice 4 rows .no] .none [[vI n,vI d,vI m]]=some r:=by
 delta f2z at h
 exact k1P h
theorem c2N {rows:List (List AV)} {n d m:Int} {r:CRes} (h:(x1R rows n d m).wp Pg cfg0 evp [] (fun x=>x=r)):evp b1Q [.ptr 0 0,.slice 5 rows .no] .none [[vI n,vI d,vI m]]=some r:=by
 delta x1R at h
 exact k1P h
theorem c2O {rows:List (List AV)} {n d m:Int} {r:CRes} (h:(x1S rows n d m).wp Pg cfg0 evp [] (fun x=>x=r)):evp b1h [.ptr 0 0,.slice 8 rows .no] .none [[vI n,vI d,vI m]]=some r:=by
 delta x1S at h
 exact k1P h
theorem c2P {rows:List (List AV)} {n d m:Int} {r:CRes} (h:(x1T rows n d m).wp Pg cfg0 evp [] (fun x=>x=r)):evp c1s [.ptr 0 0,.slice 2 rows .no] .none [[vI n,vI d,vI m]]=some r:=by
 delta x1T at h
 exact k1P h
theorem c2Q {rows:List (List AV)} {n d m:Int} {r:CRes} (h:(x1U rows n d m).wp Pg cfg0 evp [] (fun x=>x=r)):evp b1R [.ptr 0 0,.slice 9 rows .no] .none [[vI n,vI d,vI m]]=some r:=by
 delta x1U at h
 exact k1P h
theorem c2R {rows:List (List AV)} {n d m:Int} {r:CRes} (h:(x1V rows n d m).wp Pg cfg0 evp [] (fun x=>x=r)):evp c1t [.ptr 0 0,.slice 5 rows .no] .none [[vI n,vI d,vI m]]=some r:=by
 delta x1V at h
 exact k1P h
theorem c2S {rows:List (List AV)} {n d m:Int} {r:CRes} (h:(x1W rows n d m).wp Pg cfg0 evp [] (fun x=>x=r)):evp b1S [.ptr 0 0,.slice 5 rows .no] .none [[vI n,vI d,vI m]]=some r:=by
 delta x1W at h
 exact k1P h
theorem z1L {rows:List (List AV)} {n d m:Int} {r:CRes} (h:(s1M rows n d m).wp Pg cfg0 evp [] (fun x=>x=r)):evp a1K [.slice 6 rows .no,(.func (.func b1u) [] [(.ref [(.ptr 0 0)])])] .none [[vI n,vI d,vI m]]=some r:=by
 delta s1M at h
 exact k1P h
theorem q1k (k:Int) (n:ByteArray) (p:List Row) (a:List Row):cntR [.int .i64 k,.str n,.rows 1 p,.rows 4 a]=cnts a:=by simp [cntR,cntC]
theorem g2z (k:Int) (n:ByteArray) (p:List Row) (a:List Row) (m0 d0:Nat):wmR m0 d0 [.int .i64 k,.str n,.rows 1 p,.rows 4 a]=(wms m0 d0 a):=by simp [wmR,wmC]
theorem s1N (k:Int) (n:ByteArray) (p:List Row) (m:Int) (a:List Row):cntR [.int .i64 k,.str n,.rows 1 p,.int .i64 m,.rows 5 a]=cnts a:=by simp [cntR,cntC]
theorem h2P (k:Int) (n:ByteArray) (p:List Row) (m:Int) (a:List Row) (m0 d0:Nat):wmR m0 d0 [.int .i64 k,.str n,.rows 1 p,.int .i64 m,.rows 5 a]=(wms m0 d0 a):=by simp [wmR,wmC]
theorem k1C (k:Int) (o:Int) (m:Int) (p:List Row) (a:List Row) (b:List Row) (c:List Row) (d:List Row):cntR [.int .i64 k,.int .i64 o,.int .i64 m,.rows 1 p,.rows 5 a,.rows 8 b,.rows 9 c,.rows 4 d]=cnts a+cnts b+cnts c+cnts d:=by simp [cntR,cntC];omega
theorem i1o (k:Int) (o:Int) (m:Int) (p:List Row) (a:List Row) (b:List Row) (c:List Row) (d:List Row) (m0 d0:Nat):wmR m0 d0 [.int .i64 k,.int .i64 o,.int .i64 m,.rows 1 p,.rows 5 a,.rows 8 b,.rows 9 c,.rows 4 d]=(wms (wms (wms (wms m0 d0 a) d0 b) d0 c) d0 d):=by simp [wmR,wmC]
theorem s1O (n:ByteArray) (a:List Row):cntR [.str n,.rows 4 a]=cnts a:=by simp [cntR,cntC]
theorem h2Q (n:ByteArray) (a:List Row) (m0 d0:Nat):wmR m0 d0 [.str n,.rows 4 a]=(wms m0 d0 a):=by simp [wmR,wmC]
theorem m1n (k:Int) (o:Int) (n:ByteArray) (p:List Row) (a:List Row) (b:List Row) (c:List Row) (d:List Row) (e:List Row):cntR [.int .i64 k,.int .i64 o,.str n,.rows 1 p,.rows 4 a,.rows 8 b,.rows 2 c,.rows 5 d,.rows 5 e]=cnts a+cnts b+cnts c+cnts d+cnts e:=by simp [cntR,cntC];omega
theorem w1H (k:Int) (o:Int) (n:ByteArray) (p:List Row) (a:List Row) (b:List Row) (c:List Row) (d:List Row) (e:List Row) (m0 d0:Nat):wmR m0 d0 [.int .i64 k,.int .i64 o,.str n,.rows 1 p,.rows 4 a,.rows 8 b,.rows 2 c,.rows 5 d,.rows 5 e]=(wms (wms (wms (wms (wms m0 d0 a) d0 b) d0 c) d0 d) d0 e):=by simp [wmR,wmC]
theorem s1P (k:Int) (p:List Row) (a:List Row) (b:List Row) (c:List Row):cntR [.int .i64 k,.rows 1 p,.rows 9 a,.rows 5 b,.rows 5 c]=cnts a+cnts b+cnts c:=by simp [cntR,cntC];omega
theorem h2R (k:Int) (p:List Row) (a:List Row) (b:List Row) (c:List Row) (m0 d0:Nat):wmR m0 d0 [.int .i64 k,.rows 1 p,.rows 9 a,.rows 5 b,.rows 5 c]=(wms (wms (wms m0 d0 a) d0 b) d0 c):=by simp [wmR,wmC]
theorem s1Q (k:Int) (p:List Row) (a:List Row) (b:List Row) (c:List Row):cntR [.int .i64 k,.rows 1 p,.rows 6 a,.rows 5 b,.rows 4 c]=cnts a+cnts b+cnts c:=by simp [cntR,cntC];omega
theorem h2S (k:Int) (p:List Row) (a:List Row) (b:List Row) (c:List Row) (m0 d0:Nat):wmR m0 d0 [.int .i64 k,.rows 1 p,.rows 6 a,.rows 5 b,.rows 4 c]=(wms (wms (wms m0 d0 a) d0 b) d0 c):=by simp [wmR,wmC]
theorem q1l (k:Int) (o:Int) (n:ByteArray) (a:List Row) (b:List Row) (c:List Row):cntR [.int .i64 k,.int .i64 o,.str n,.rows 4 a,.rows 2 b,.rows 5 c]=cnts a+cnts b+cnts c:=by simp [cntR,cntC];omega
theorem f2B (k:Int) (o:Int) (n:ByteArray) (a:List Row) (b:List Row) (c:List Row) (m0 d0:Nat):wmR m0 d0 [.int .i64 k,.int .i64 o,.str n,.rows 4 a,.rows 2 b,.rows 5 c]=(wms (wms (wms m0 d0 a) d0 b) d0 c):=by simp [wmR,wmC]
theorem f2C {N:Nat} (ih:∀M,M<N→WAll M):WOk a1M (fun l=>[.ptr 0 0,.slice 4 (avss l) .no]) (.ptr 0 0) c1e N:=by
 intro l hl ht n d m hn hd
 unfold BIG at hn hd
 refine f2A ?_
 refine q1S (t:=f2z (avss l) n d m) (fun i:Nat=>⟨tm2 16 [(1,(.func (.func c1C) [] [(.ref [(.ptr 0 0)])])),(6,(.slice 4 (avss l) .no)),(7,(vI (avss l).length)),(8,(vI i))],lm2 16 [],⟨[[vI (n+cnts (l.take i):Nat),vI d,vI (wms m d (l.take i):Nat)]],[],.none,1⟩⟩) (fun i=>i≤l.length) (fun i=>l.length-i) 0 (by kernel_rfl) (Nat.zero_le _) ?_
 intro i hi
 refine a1j (c2M (avss l) n d m (n+cnts (l.take i):Nat) d (wms m d (l.take i):Nat) i) ?_
 rw[b1L]
 refine a1d (fun h=>?_) (fun h=>?_)
 ·have h:=of_decide_eq_true h
  obtain⟨r,hr⟩:∃r,l[i]? =some r:=⟨_,List.getElem?_eq_getElem (by omega:i<l.length)⟩
  have hl2:=(List.getElem?_eq_some_iff.1 hr).1
  obtain⟨xk,xn,xp,xa,rfl,t_xp,t_xa⟩:=v1n (ht r (List.mem_of_getElem? hr))
  have e0:=i1n hr
  rw[q1k] at e0
  simp only[oneR] at e0
  have en:n+cnts (l.take (i+1))=n+cnts (l.take i)+1+cnts xa:=by rw[e1v hr,q1k];simp only[oneR];omega
  have em:=g1l (m:=m) (d:=d) hr
  rw[g2z] at em
  rw[a1Z (x:=n+cnts (l.take i)) (by omega),a1Z (x:=d) (by omega),kmax,a1Z (x:=i) (by have:=g1m fun r hr=>i2h (ht r hr);omega)]
  refine⟨xk,xn,avss xp,avss xa,⟨Int.natCast_nonneg i,g1y hr⟩,?_⟩
  refine⟨_,_,_,(ih (cnts xa) (by omega)).tys xa (Nat.le_refl _) t_xa _ _ _ (by unfold BIG;omega) (by unfold BIG;omega),?_⟩
  refine⟨rfl,rfl,rfl,i+1,⟨by omega,by omega⟩,?_⟩
  rw[g1x (x:=d) (by omega),en,em]
 ·have h:=of_decide_eq_false h
  have hil:i=l.length:=by omega
  subst hil
  rw[List.take_length] at *
  exact⟨rfl,rfl,rfl⟩
theorem c2T {N:Nat} (ih:∀M,M<N→WAll M):WOk b1Q (fun l=>[.ptr 0 0,.slice 5 (avss l) .no]) (.ptr 0 0) c1A N:=by
 intro l hl ht n d m hn hd
 unfold BIG at hn hd
 refine c2N ?_
 refine q1S (t:=x1R (avss l) n d m) (fun i:Nat=>⟨tm2 16 [(1,(.func (.func e1J) [] [(.ref [(.ptr 0 0)])])),(6,(.slice 5 (avss l) .no)),(7,(vI (avss l).length)),(8,(vI i))],lm2 16 [],⟨[[vI (n+cnts (l.take i):Nat),vI d,vI (wms m d (l.take i):Nat)]],[],.none,1⟩⟩) (fun i=>i≤l.length) (fun i=>l.length-i) 0 (by kernel_rfl) (Nat.zero_le _) ?_
 intro i hi
 refine a1j (z1F (avss l) n d m (n+cnts (l.take i):Nat) d (wms m d (l.take i):Nat) i) ?_
 rw[b1L]
 refine a1d (fun h=>?_) (fun h=>?_)
 ·have h:=of_decide_eq_true h
  obtain⟨r,hr⟩:∃r,l[i]? =some r:=⟨_,List.getElem?_eq_getElem (by omega:i<l.length)⟩
  have hl2:=(List.getElem?_eq_some_iff.1 hr).1
  obtain⟨xk,xn,xp,xm,xa,rfl,t_xp,t_xa⟩:=s1V (ht r (List.mem_of_getElem? hr))
  have e0:=i1n hr
  rw[s1N] at e0
  simp only[oneR] at e0
  have en:n+cnts (l.take (i+1))=n+cnts (l.take i)+1+cnts xa:=by rw[e1v hr,s1N];simp only[oneR];omega
  have em:=g1l (m:=m) (d:=d) hr
  rw[h2P] at em
  rw[a1Z (x:=n+cnts (l.take i)) (by omega),a1Z (x:=d) (by omega),kmax,a1Z (x:=i) (by have:=g1m fun r hr=>g2B (ht r hr);omega)]
  refine⟨xk,xn,avss xp,xm,avss xa,⟨Int.natCast_nonneg i,g1y hr⟩,?_⟩
  refine⟨_,_,_,(ih (cnts xa) (by omega)).pats xa (Nat.le_refl _) t_xa _ _ _ (by unfold BIG;omega) (by unfold BIG;omega),?_⟩
  refine⟨rfl,rfl,rfl,i+1,⟨by omega,by omega⟩,?_⟩
  rw[g1x (x:=d) (by omega),en,em]
 ·have h:=of_decide_eq_false h
  have hil:i=l.length:=by omega
  subst hil
  rw[List.take_length] at *
  exact⟨rfl,rfl,rfl⟩
theorem c2U {N:Nat} (ih:∀M,M<N→WAll M):WOk b1h (fun l=>[.ptr 0 0,.slice 8 (avss l) .no]) (.ptr 0 0) c1z N:=by
 intro l hl ht n d m hn hd
 unfold BIG at hn hd
 refine c2O ?_
 refine q1S (t:=x1S (avss l) n d m) (fun i:Nat=>⟨tm2 16 [(1,(.func (.func c1v) [] [(.ref [(.ptr 0 0)])])),(6,(.slice 8 (avss l) .no)),(7,(vI (avss l).length)),(8,(vI i))],lm2 16 [],⟨[[vI (n+cnts (l.take i):Nat),vI d,vI (wms m d (l.take i):Nat)]],[],.none,1⟩⟩) (fun i=>i≤l.length) (fun i=>l.length-i) 0 (by kernel_rfl) (Nat.zero_le _) ?_
 intro i hi
 refine a1j (z1G (avss l) n d m (n+cnts (l.take i):Nat) d (wms m d (l.take i):Nat) i) ?_
 rw[b1L]
 refine a1d (fun h=>?_) (fun h=>?_)
 ·have h:=of_decide_eq_true h
  obtain⟨r,hr⟩:∃r,l[i]? =some r:=⟨_,List.getElem?_eq_getElem (by omega:i<l.length)⟩
  have hl2:=(List.getElem?_eq_some_iff.1 hr).1
  obtain⟨xk,xo,xm,xp,xa,xb,xc,xd,rfl,t_xp,t_xa,t_xb,t_xc,t_xd⟩:=q1o (ht r (List.mem_of_getElem? hr))
  have e0:=i1n hr
  rw[k1C] at e0
  simp only[oneR] at e0
  have en:n+cnts (l.take (i+1))=n+cnts (l.take i)+1+cnts xa+cnts xb+cnts xc+cnts xd:=by rw[e1v hr,k1C];simp only[oneR];omega
  have em:=g1l (m:=m) (d:=d) hr
  rw[i1o] at em
  rw[a1Z (x:=n+cnts (l.take i)) (by omega),a1Z (x:=d) (by omega),kmax,a1Z (x:=i) (by have:=g1m fun r hr=>d2t (ht r hr);omega)]
  refine⟨xk,xo,xm,avss xp,avss xa,avss xb,avss xc,avss xd,⟨Int.natCast_nonneg i,g1y hr⟩,?_⟩
  refine⟨_,_,_,(ih (cnts xa) (by omega)).pats xa (Nat.le_refl _) t_xa _ _ _ (by unfold BIG;omega) (by unfold BIG;omega),?_⟩
  refine⟨_,_,_,(ih (cnts xb) (by omega)).exps xb (Nat.le_refl _) t_xb _ _ _ (by unfold BIG;omega) (by unfold BIG;omega),?_⟩
  refine⟨_,_,_,(ih (cnts xc) (by omega)).decs xc (Nat.le_refl _) t_xc _ _ _ (by unfold BIG;omega) (by unfold BIG;omega),?_⟩
  refine⟨_,_,_,(ih (cnts xd) (by omega)).tys xd (Nat.le_refl _) t_xd _ _ _ (by unfold BIG;omega) (by unfold BIG;omega),?_⟩
  refine⟨rfl,rfl,rfl,i+1,⟨by omega,by omega⟩,?_⟩
  rw[g1x (x:=d) (by omega),en,em]
 ·have h:=of_decide_eq_false h
  have hil:i=l.length:=by omega
  subst hil
  rw[List.take_length] at *
  exact⟨rfl,rfl,rfl⟩
theorem c2V {N:Nat} (ih:∀M,M<N→WAll M):WOk c1s (fun l=>[.ptr 0 0,.slice 2 (avss l) .no]) (.ptr 0 0) e1f N:=by
 intro l hl ht n d m hn hd
 unfold BIG at hn hd
 refine c2P ?_
 refine q1S (t:=x1T (avss l) n d m) (fun i:Nat=>⟨tm2 16 [(1,(.func (.func e1L) [] [(.ref [(.ptr 0 0)])])),(6,(.slice 2 (avss l) .no)),(7,(vI (avss l).length)),(8,(vI i))],lm2 16 [],⟨[[vI (n+cnts (l.take i):Nat),vI d,vI (wms m d (l.take i):Nat)]],[],.none,1⟩⟩) (fun i=>i≤l.length) (fun i=>l.length-i) 0 (by kernel_rfl) (Nat.zero_le _) ?_
 intro i hi
 refine a1j (z1H (avss l) n d m (n+cnts (l.take i):Nat) d (wms m d (l.take i):Nat) i) ?_
 rw[b1L]
 refine a1d (fun h=>?_) (fun h=>?_)
 ·have h:=of_decide_eq_true h
  obtain⟨r,hr⟩:∃r,l[i]? =some r:=⟨_,List.getElem?_eq_getElem (by omega:i<l.length)⟩
  have hl2:=(List.getElem?_eq_some_iff.1 hr).1
  obtain⟨xn,xa,rfl,t_xa⟩:=s1W (ht r (List.mem_of_getElem? hr))
  have e0:=i1n hr
  rw[s1O] at e0
  simp only[oneR] at e0
  have en:n+cnts (l.take (i+1))=n+cnts (l.take i)+1+cnts xa:=by rw[e1v hr,s1O];simp only[oneR];omega
  have em:=g1l (m:=m) (d:=d) hr
  rw[h2Q] at em
  rw[a1Z (x:=n+cnts (l.take i)) (by omega),a1Z (x:=d) (by omega),kmax,a1Z (x:=i) (by have:=g1m fun r hr=>g2C (ht r hr);omega)]
  refine⟨xn,avss xa,⟨Int.natCast_nonneg i,g1y hr⟩,?_⟩
  refine⟨_,_,_,(ih (cnts xa) (by omega)).tys xa (Nat.le_refl _) t_xa _ _ _ (by unfold BIG;omega) (by unfold BIG;omega),?_⟩
  refine⟨rfl,rfl,rfl,i+1,⟨by omega,by omega⟩,?_⟩
  rw[g1x (x:=d) (by omega),en,em]
 ·have h:=of_decide_eq_false h
  have hil:i=l.length:=by omega
  subst hil
  rw[List.take_length] at *
  exact⟨rfl,rfl,rfl⟩
theorem c2W {N:Nat} (ih:∀M,M<N→WAll M):WOk b1R (fun l=>[.ptr 0 0,.slice 9 (avss l) .no]) (.ptr 0 0) c1u N:=by
 intro l hl ht n d m hn hd
 unfold BIG at hn hd
 refine c2Q ?_
 refine q1S (t:=x1U (avss l) n d m) (fun i:Nat=>⟨tm2 16 [(1,(.func (.func e1K) [] [(.ref [(.ptr 0 0)])])),(6,(.slice 9 (avss l) .no)),(7,(vI (avss l).length)),(8,(vI i))],lm2 16 [],⟨[[vI (n+cnts (l.take i):Nat),vI d,vI (wms m d (l.take i):Nat)]],[],.none,1⟩⟩) (fun i=>i≤l.length) (fun i=>l.length-i) 0 (by kernel_rfl) (Nat.zero_le _) ?_
 intro i hi
 refine a1j (z1I (avss l) n d m (n+cnts (l.take i):Nat) d (wms m d (l.take i):Nat) i) ?_
 rw[b1L]
 refine a1d (fun h=>?_) (fun h=>?_)
 ·have h:=of_decide_eq_true h
  obtain⟨r,hr⟩:∃r,l[i]? =some r:=⟨_,List.getElem?_eq_getElem (by omega:i<l.length)⟩
  have hl2:=(List.getElem?_eq_some_iff.1 hr).1
  obtain⟨xk,xo,xn,xp,xa,xb,xc,xd,xe,rfl,t_xp,t_xa,t_xb,t_xc,t_xd,t_xe⟩:=n1d (ht r (List.mem_of_getElem? hr))
  have e0:=i1n hr
  rw[m1n] at e0
  simp only[oneR] at e0
  have en:n+cnts (l.take (i+1))=n+cnts (l.take i)+1+cnts xa+cnts xb+cnts xc+cnts xd+cnts xe:=by rw[e1v hr,m1n];simp only[oneR];omega
  have em:=g1l (m:=m) (d:=d) hr
  rw[w1H] at em
  rw[a1Z (x:=n+cnts (l.take i)) (by omega),a1Z (x:=d) (by omega),kmax,a1Z (x:=i) (by have:=g1m fun r hr=>d2u (ht r hr);omega)]
  refine⟨xk,xo,xn,avss xp,avss xa,avss xb,avss xc,avss xd,avss xe,⟨Int.natCast_nonneg i,g1y hr⟩,?_⟩
  refine⟨_,_,_,(ih (cnts xa) (by omega)).tys xa (Nat.le_refl _) t_xa _ _ _ (by unfold BIG;omega) (by unfold BIG;omega),?_⟩
  refine⟨_,_,_,(ih (cnts xb) (by omega)).exps xb (Nat.le_refl _) t_xb _ _ _ (by unfold BIG;omega) (by unfold BIG;omega),?_⟩
  refine⟨_,_,_,(ih (cnts xc) (by omega)).cons xc (Nat.le_refl _) t_xc _ _ _ (by unfold BIG;omega) (by unfold BIG;omega),?_⟩
  refine⟨_,_,_,(ih (cnts xd) (by omega)).mods xd (Nat.le_refl _) t_xd _ _ _ (by unfold BIG;omega) (by unfold BIG;omega),?_⟩
  refine⟨_,_,_,(ih (cnts xe) (by omega)).sigs xe (Nat.le_refl _) t_xe _ _ _ (by unfold BIG;omega) (by unfold BIG;omega),?_⟩
  refine⟨rfl,rfl,rfl,i+1,⟨by omega,by omega⟩,?_⟩
  rw[g1x (x:=d) (by omega),en,em]
 ·have h:=of_decide_eq_false h
  have hil:i=l.length:=by omega
  subst hil
  rw[List.take_length] at *
  exact⟨rfl,rfl,rfl⟩
theorem c2X {N:Nat} (ih:∀M,M<N→WAll M):WOk c1t (fun l=>[.ptr 0 0,.slice 5 (avss l) .no]) (.ptr 0 0) e1g N:=by
 intro l hl ht n d m hn hd
 unfold BIG at hn hd
 refine c2R ?_
 refine q1S (t:=x1V (avss l) n d m) (fun i:Nat=>⟨tm2 16 [(1,(.func (.func e1M) [] [(.ref [(.ptr 0 0)])])),(6,(.slice 5 (avss l) .no)),(7,(vI (avss l).length)),(8,(vI i))],lm2 16 [],⟨[[vI (n+cnts (l.take i):Nat),vI d,vI (wms m d (l.take i):Nat)]],[],.none,1⟩⟩) (fun i=>i≤l.length) (fun i=>l.length-i) 0 (by kernel_rfl) (Nat.zero_le _) ?_
 intro i hi
 refine a1j (z1J (avss l) n d m (n+cnts (l.take i):Nat) d (wms m d (l.take i):Nat) i) ?_
 rw[b1L]
 refine a1d (fun h=>?_) (fun h=>?_)
 ·have h:=of_decide_eq_true h
  obtain⟨r,hr⟩:∃r,l[i]? =some r:=⟨_,List.getElem?_eq_getElem (by omega:i<l.length)⟩
  have hl2:=(List.getElem?_eq_some_iff.1 hr).1
  obtain⟨xk,xp,xa,xb,xc,rfl,t_xp,t_xa,t_xb,t_xc⟩:=s1X (ht r (List.mem_of_getElem? hr))
  have e0:=i1n hr
  rw[s1P] at e0
  simp only[oneR] at e0
  have en:n+cnts (l.take (i+1))=n+cnts (l.take i)+1+cnts xa+cnts xb+cnts xc:=by rw[e1v hr,s1P];simp only[oneR];omega
  have em:=g1l (m:=m) (d:=d) hr
  rw[h2R] at em
  rw[a1Z (x:=n+cnts (l.take i)) (by omega),a1Z (x:=d) (by omega),kmax,a1Z (x:=i) (by have:=g1m fun r hr=>g2D (ht r hr);omega)]
  refine⟨xk,avss xp,avss xa,avss xb,avss xc,⟨Int.natCast_nonneg i,g1y hr⟩,?_⟩
  refine⟨_,_,_,(ih (cnts xa) (by omega)).decs xa (Nat.le_refl _) t_xa _ _ _ (by unfold BIG;omega) (by unfold BIG;omega),?_⟩
  refine⟨_,_,_,(ih (cnts xb) (by omega)).mods xb (Nat.le_refl _) t_xb _ _ _ (by unfold BIG;omega) (by unfold BIG;omega),?_⟩
  refine⟨_,_,_,(ih (cnts xc) (by omega)).sigs xc (Nat.le_refl _) t_xc _ _ _ (by unfold BIG;omega) (by unfold BIG;omega),?_⟩
  refine⟨rfl,rfl,rfl,i+1,⟨by omega,by omega⟩,?_⟩
  rw[g1x (x:=d) (by omega),en,em]
 ·have h:=of_decide_eq_false h
  have hil:i=l.length:=by omega
  subst hil
  rw[List.take_length] at *
  exact⟨rfl,rfl,rfl⟩
theorem c2Y {N:Nat} (ih:∀M,M<N→WAll M):WOk b1S (fun l=>[.ptr 0 0,.slice 5 (avss l) .no]) (.ptr 0 0) d1o N:=by
 intro l hl ht n d m hn hd
 unfold BIG at hn hd
 refine c2S ?_
 refine q1S (t:=x1W (avss l) n d m) (fun i:Nat=>⟨tm2 16 [(1,(.func (.func e1N) [] [(.ref [(.ptr 0 0)])])),(6,(.slice 5 (avss l) .no)),(7,(vI (avss l).length)),(8,(vI i))],lm2 16 [],⟨[[vI (n+cnts (l.take i):Nat),vI d,vI (wms m d (l.take i):Nat)]],[],.none,1⟩⟩) (fun i=>i≤l.length) (fun i=>l.length-i) 0 (by kernel_rfl) (Nat.zero_le _) ?_
 intro i hi
 refine a1j (z1K (avss l) n d m (n+cnts (l.take i):Nat) d (wms m d (l.take i):Nat) i) ?_
 rw[b1L]
 refine a1d (fun h=>?_) (fun h=>?_)
 ·have h:=of_decide_eq_true h
  obtain⟨r,hr⟩:∃r,l[i]? =some r:=⟨_,List.getElem?_eq_getElem (by omega:i<l.length)⟩
  have hl2:=(List.getElem?_eq_some_iff.1 hr).1
  obtain⟨xk,xp,xa,xb,xc,rfl,t_xp,t_xa,t_xb,t_xc⟩:=s1Y (ht r (List.mem_of_getElem? hr))
  have e0:=i1n hr
  rw[s1Q] at e0
  simp only[oneR] at e0
  have en:n+cnts (l.take (i+1))=n+cnts (l.take i)+1+cnts xa+cnts xb+cnts xc:=by rw[e1v hr,s1Q];simp only[oneR];omega
  have em:=g1l (m:=m) (d:=d) hr
  rw[h2S] at em
  rw[a1Z (x:=n+cnts (l.take i)) (by omega),a1Z (x:=d) (by omega),kmax,a1Z (x:=i) (by have:=g1m fun r hr=>g2E (ht r hr);omega)]
  refine⟨xk,avss xp,avss xa,avss xb,avss xc,⟨Int.natCast_nonneg i,g1y hr⟩,?_⟩
  refine⟨_,_,_,(ih (cnts xa) (by omega)).specs xa (Nat.le_refl _) t_xa _ _ _ (by unfold BIG;omega) (by unfold BIG;omega),?_⟩
  refine⟨_,_,_,(ih (cnts xb) (by omega)).sigs xb (Nat.le_refl _) t_xb _ _ _ (by unfold BIG;omega) (by unfold BIG;omega),?_⟩
  refine⟨_,_,_,(ih (cnts xc) (by omega)).tys xc (Nat.le_refl _) t_xc _ _ _ (by unfold BIG;omega) (by unfold BIG;omega),?_⟩
  refine⟨rfl,rfl,rfl,i+1,⟨by omega,by omega⟩,?_⟩
  rw[g1x (x:=d) (by omega),en,em]
 ·have h:=of_decide_eq_false h
  have hil:i=l.length:=by omega
  subst hil
  rw[List.take_length] at *
  exact⟨rfl,rfl,rfl⟩
theorem z1M {N:Nat} (ih:∀M,M<N→WAll M):WOk a1K (fun l=>[.slice 6 (avss l) .no,(.func (.func b1u) [] [(.ref [(.ptr 0 0)])])]) (.tuple []) d1G N:=by
 intro l hl ht n d m hn hd
 unfold BIG at hn hd
 refine z1L ?_
 refine q1S (t:=s1M (avss l) n d m) (fun i:Nat=>⟨tm2 16 [(1,(.func (.func b1u) [] [(.ref [(.ptr 0 0)])])),(6,(.slice 6 (avss l) .no)),(7,(vI (avss l).length)),(8,(vI i))],lm2 16 [],⟨[[vI (n+cnts (l.take i):Nat),vI d,vI (wms m d (l.take i):Nat)]],[],.none,1⟩⟩) (fun i=>i≤l.length) (fun i=>l.length-i) 0 (by kernel_rfl) (Nat.zero_le _) ?_
 intro i hi
 refine a1j (w1G (avss l) n d m (n+cnts (l.take i):Nat) d (wms m d (l.take i):Nat) i) ?_
 rw[b1L]
 refine a1d (fun h=>?_) (fun h=>?_)
 ·have h:=of_decide_eq_true h
  obtain⟨r,hr⟩:∃r,l[i]? =some r:=⟨_,List.getElem?_eq_getElem (by omega:i<l.length)⟩
  have hl2:=(List.getElem?_eq_some_iff.1 hr).1
  obtain⟨xk,xo,xn,xa,xb,xc,rfl,t_xa,t_xb,t_xc⟩:=o1v (ht r (List.mem_of_getElem? hr))
  have e0:=i1n hr
  rw[q1l] at e0
  simp only[oneR] at e0
  have en:n+cnts (l.take (i+1))=n+cnts (l.take i)+1+cnts xa+cnts xb+cnts xc:=by rw[e1v hr,q1l];simp only[oneR];omega
  have em:=g1l (m:=m) (d:=d) hr
  rw[f2B] at em
  rw[a1Z (x:=n+cnts (l.take i)) (by omega),a1Z (x:=d) (by omega),kmax,a1Z (x:=i) (by have:=g1m fun r hr=>d2v (ht r hr);omega)]
  refine⟨xk,xo,xn,avss xa,avss xb,avss xc,⟨Int.natCast_nonneg i,g1y hr⟩,?_⟩
  refine⟨_,_,_,(ih (cnts xa) (by omega)).tys xa (Nat.le_refl _) t_xa _ _ _ (by unfold BIG;omega) (by unfold BIG;omega),?_⟩
  refine⟨_,_,_,(ih (cnts xb) (by omega)).cons xb (Nat.le_refl _) t_xb _ _ _ (by unfold BIG;omega) (by unfold BIG;omega),?_⟩
  refine⟨_,_,_,(ih (cnts xc) (by omega)).sigs xc (Nat.le_refl _) t_xc _ _ _ (by unfold BIG;omega) (by unfold BIG;omega),?_⟩
  refine⟨rfl,rfl,rfl,i+1,⟨by omega,by omega⟩,?_⟩
  rw[g1x (x:=d) (by omega),en,em]
 ·have h:=of_decide_eq_false h
  have hil:i=l.length:=by omega
  subst hil
  rw[List.take_length] at *
  exact⟨rfl,rfl⟩
theorem x1X:∀N,WAll N:=by
 intro N
 induction N using Nat.strongRecOn with
 |_ N ih=>exact⟨f2C ih,c2T ih,c2U ih,c2V ih,c2W ih,c2X ih,c2Y ih,z1M ih⟩
end Go.Proofs.Ck
end
