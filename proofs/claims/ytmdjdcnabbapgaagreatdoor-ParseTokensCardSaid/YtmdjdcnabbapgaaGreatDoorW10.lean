/- Texts of this proof folded into one: TF RX7 A2 E31 KZ5 RX21. -/
import Derived.Test.YtmdjdcnabbapgaaGreatDoorW6
import Derived.Test.YtmdjdcnabbapgaaGreatDoorW7
import Derived.Test.YtmdjdcnabbapgaaGreatDoorW9
section
open Go Go.Eng
namespace Go.Proofs
noncomputable def shL7:List (Nat×KM):=[(c1N,.con (some (a1s Pg c1N)) none false),
 (c1L,.con (some (a1s Pg c1L)) none false),
 (b1W,.con (some (a1s Pg b1W)) none false),
 (f1B,.con (some (a1s Pg f1B)) none false),
 (b1E,.con (some (a1s Pg b1E)) none false),
 (d1v,.con (some (a1s Pg d1v)) none false),
 (d1j,.con (some (a1s Pg d1j)) none false),
 (d1i,.con (some (a1s Pg d1i)) none false),
 (d1Q,.con (some (a1s Pg d1Q)) none false),
 (d1u,.con (some (a1s Pg d1u)) none false),
 (b1N,.con (some (a1s Pg b1N)) none false),
 (b1P,.con (some (a1s Pg b1P)) none false),
 (c1j,.con (some (a1s Pg c1j)) none false),
 (e1x,.con (some (a1s Pg e1x)) none false),
 (b1p,.con (some (a1s Pg b1p)) none false),
 (e1w,.con (some (a1s Pg e1w)) none false),
 (e1d,.con (some (a1s Pg e1d)) none false),
 (e1c,.con (some (a1s Pg e1c)) none false),
 (f1i,.con (some (a1s Pg f1i)) none false),
 (o1c,.keep),
 (n1b,.keep),
 (i1E,.inl true),
 (a1o,.con (some (a1s Pg a1o)) (some (a1p,.const (.agg []))) true),
 (c1x,.con (some (a1s Pg c1x)) none true),
 (i1q,.inl true),
 (a1H,.con (some (a1s Pg a1H)) (some (a1p,.const (.agg []))) true),
 (c1r,.con (some (a1s Pg c1r)) none true),
 (i1p,.inl true),
 (a1i,.con (some (a1s Pg a1i)) (some (a1p,.const (.agg []))) true),
 (c1q,.con (some (a1s Pg c1q)) none true)]
noncomputable def sh7:FuncId→KM:=fun f=>match shL7.lookup f with
 |some k=>k
 |none=>.inl false
@[irreducible] noncomputable def ktc7 (f:FuncId) (args:List AV) (H:Heap):KT:=u1f Pg cfg0 rs0 sh7 12 true f args .none H
theorem d2r {f:FuncId} {args:List AV} {H:Heap} {r:CRes} (h:(ktc7 f args H).wp Pg cfg0 evp [] (fun x=>x=r)):evp f args .none H=some r:=by
 delta ktc7 at h
 obtain⟨x,h1,rfl⟩:=d1P (d1f hx0) h
 exact h1
end Go.Proofs
end

section
/- TREES, printed by kt.py out of y7.txt -/
open Go Go.Eng
open IntKind (wrap)
namespace Go.Proofs
set_option linter.unusedVariables false
set_option maxRecDepth 100000
@[irreducible] noncomputable def X_Ty (s:ByteArray):KT:=ktc7 c1j [vS s] []
theorem X_Ty_eq (s:ByteArray):ktc7 c1j [vS s] []=
 zk88 c1N [vS s] [] (fun l i i1=>.branch (i1 !=0) (.need true (.branch (i1 !=0) (zkL 0 [] (zkL 0 [] (zkL 0 [] (zkL 0 [] (.ret (zkR (.tuple (zk71 zkb2 i i1)) [])))))) (.alt (.exI fun i2=>.exS fun s1=>zkR2 fun l1 l2=>.call a1o [(.val (.pointer .none))] .none [] (zkR (.agg (zk6 i2 s1 l1 l2)) []) (.branch ((none:Option Addr).isNone) (.need true (.branch (2 !=0) (zkL 0 [] (zkL 0 [] (zkL 0 [] (zkL 0 [] (.ret (zkR (.tuple [.agg (zk29 zkb2),vI 0,vI 2]) [])))))) (zk16 b1W (zk39 i2 s1 l1 l2) [] (fun i3=>.branch (i3==4) (zkL 0 [] (zkL 0 [] (zkL 0 [] (zkL 0 [] (.ret (zkR (.tuple (zk83 zkb2)) [])))))) (zkL 0 l1 (zkL 0 l2 (zkL 0 l1 (zkL 0 l2 (.ret (zkR (.tuple (zk51 i2 s1 l1 l2)) [])))))))))) .fail)) (.call a1o [(.val (.pointer .none))] .none [] (zkQ zkF0 []) (.ret (zkQ zkF0 [])))))) (.need true (.branch (0 !=0) (zkL 0 [] (zkL 0 [] (zkL 0 [] (zkL 0 [] (.ret (zkR (.tuple (i2V zkb2)) [])))))) (zk63 a1o [zkP] [zk61 l (↑s.size:Int)] (fun i2 s1 l1 l2 l3 i3 i4 i5 i6=>.branch false (.need true (.branch (2 !=0) (zkL 0 [] (zkL 0 [] (zkL 0 [] (zkL 0 [] (.ret (zkR (.tuple [.agg (zk29 zkb2),vI 0,vI 2]) [])))))) (zk16 b1W (zk39 i2 s1 l1 l2) [zk1 l3 i3 i4 i5 i6] (fun i7=>.branch (i7==4) (zkL 0 [] (zkL 0 [] (zkL 0 [] (zkL 0 [] (.ret (zkR (.tuple (zk83 zkb2)) [])))))) (zkL 0 l1 (zkL 0 l2 (zkL 0 l1 (zkL 0 l2 (.ret (zkR (.tuple (zk51 i2 s1 l1 l2)) [])))))))))) (.branch (i4 !=0) (.need true (.branch (i4 !=0) (zkL 0 [] (zkL 0 [] (zkL 0 [] (zkL 0 [] (.ret (zkR (.tuple (zk71 zkb2 i5 i4)) [])))))) (zk16 b1W (zk39 i2 s1 l1 l2) [zk1 l3 i3 i4 i5 i6] (fun i7=>.branch (i7==4) (zkL 0 [] (zkL 0 [] (zkL 0 [] (zkL 0 [] (.ret (zkR (.tuple (zk83 zkb2)) [])))))) (zkL 0 l1 (zkL 0 l2 (zkL 0 l1 (zkL 0 l2 (.ret (zkR (.tuple (zk51 i2 s1 l1 l2)) [])))))))))) (.branch (decide ((↑l3.length:Int)>0)) (.exI fun i7=>.exS fun s2=>zkI2 fun i8 i9=>.row l3 0 (zk9 i7 s2 i8 i9) (.need true (.branch (11 !=0) (zkL 0 [] (zkL 0 [] (zkL 0 [] (zkL 0 [] (.ret (zkR (.tuple [.agg (zk29 zkb2),vI i9,vI 11]) [])))))) (zk16 b1W (zk39 i2 s1 l1 l2) [zk1 l3 i3 i4 i5 i6] (fun i10=>.branch (i10==4) (zkL 0 [] (zkL 0 [] (zkL 0 [] (zkL 0 [] (.ret (zkR (.tuple (zk83 zkb2)) [])))))) (zkL 0 l1 (zkL 0 l2 (zkL 0 l1 (zkL 0 l2 (.ret (zkR (.tuple (zk51 i2 s1 l1 l2)) []))))))))))) (.need true (.branch (0 !=0) (zkL 0 [] (zkL 0 [] (zkL 0 [] (zkL 0 [] (.ret (zkR (.tuple (i2V zkb2)) [])))))) (zk16 b1W (zk39 i2 s1 l1 l2) [zk1 l3 i3 i4 i5 i6] (fun i7=>.branch (i7==4) (zkL 0 [] (zkL 0 [] (zkL 0 [] (zkL 0 [] (.ret (zkR (.tuple (zk83 zkb2)) [])))))) (zkL 0 l1 (zkL 0 l2 (zkL 0 l1 (zkL 0 l2 (.ret (zkR (.tuple (zk51 i2 s1 l1 l2)) []))))))))))))) (fun l1 i2 i3 i4 i5=>.ret (zkQ zkF0 [])))))):=by kernel_rfl
@[irreducible] noncomputable def X_Exp (s:ByteArray):KT:=ktc7 b1p [vS s] []
theorem X_Exp_eq (s:ByteArray):ktc7 b1p [vS s] []=
 zk88 c1N [vS s] [] (fun l i i1=>.branch (i1 !=0) (.need true (.branch (i1 !=0) (zkL 0 [] (zkL 0 [] (zkL 0 [] (zkL 0 [] (zkL 0 [] (zkL 0 [] (zkL 0 [] (zkL 0 [] (zkL 0 [] (zkL 0 [] (.ret (zkR (.tuple (i2Z i i1)) [])))))))))))) (.alt (zkI3 fun i2 i3 i4=>zkR5 fun l1 l2 l3 l4 l5=>.call a1i [(.val (.pointer .none))] .none [] (zkR (.agg (zk7 i2 i3 i4 l1 l2 l3 l4 l5)) []) (.branch ((none:Option Addr).isNone) (.need true (.branch (2 !=0) (zkL 0 [] (zkL 0 [] (zkL 0 [] (zkL 0 [] (zkL 0 [] (zkL 0 [] (zkL 0 [] (zkL 0 [] (zkL 0 [] (zkL 0 [] (.ret (zkR (.tuple i2Y) [])))))))))))) (zk16 b1E (zk67 i2 i3 i4 l1 l2 l3 l4 l5) [] (fun i5=>.branch (i5==4) (zkL 0 [] (zkL 0 [] (zkL 0 [] (zkL 0 [] (zkL 0 [] (zkL 0 [] (zkL 0 [] (zkL 0 [] (zkL 0 [] (zkL 0 [] (.ret (zkR (.tuple zk82) [])))))))))))) (zkL 0 l1 (zkL 0 l2 (zkL 0 l3 (zkL 0 l4 (zkL 0 l5 (zkL 0 l1 (zkL 0 l2 (zkL 0 l3 (zkL 0 l4 (zkL 0 l5 (.ret (zkR (.tuple (zk84 i2 i3 i4 l1 l2 l3 l4 l5)) [])))))))))))))))) .fail)) (.call a1i [(.val (.pointer .none))] .none [] (zkQ zkF0 []) (.ret (zkQ zkF0 [])))))) (.need true (.branch (0 !=0) (zkL 0 [] (zkL 0 [] (zkL 0 [] (zkL 0 [] (zkL 0 [] (zkL 0 [] (zkL 0 [] (zkL 0 [] (zkL 0 [] (zkL 0 [] (.ret (zkR (.tuple i2X) [])))))))))))) (zk26 a1i [zkP] [zk61 l (↑s.size:Int)] (fun i2 i3 i4 l1 l2 l3 l4 l5 l6 i5 i6 i7 i8=>.branch false (.need true (.branch (2 !=0) (zkL 0 [] (zkL 0 [] (zkL 0 [] (zkL 0 [] (zkL 0 [] (zkL 0 [] (zkL 0 [] (zkL 0 [] (zkL 0 [] (zkL 0 [] (.ret (zkR (.tuple i2Y) [])))))))))))) (zk16 b1E (zk67 i2 i3 i4 l1 l2 l3 l4 l5) [zk1 l6 i5 i6 i7 i8] (fun i9=>.branch (i9==4) (zkL 0 [] (zkL 0 [] (zkL 0 [] (zkL 0 [] (zkL 0 [] (zkL 0 [] (zkL 0 [] (zkL 0 [] (zkL 0 [] (zkL 0 [] (.ret (zkR (.tuple zk82) [])))))))))))) (zkL 0 l1 (zkL 0 l2 (zkL 0 l3 (zkL 0 l4 (zkL 0 l5 (zkL 0 l1 (zkL 0 l2 (zkL 0 l3 (zkL 0 l4 (zkL 0 l5 (.ret (zkR (.tuple (zk84 i2 i3 i4 l1 l2 l3 l4 l5)) [])))))))))))))))) (.branch (i6 !=0) (.need true (.branch (i6 !=0) (zkL 0 [] (zkL 0 [] (zkL 0 [] (zkL 0 [] (zkL 0 [] (zkL 0 [] (zkL 0 [] (zkL 0 [] (zkL 0 [] (zkL 0 [] (.ret (zkR (.tuple (i2Z i7 i6)) [])))))))))))) (zk16 b1E (zk67 i2 i3 i4 l1 l2 l3 l4 l5) [zk1 l6 i5 i6 i7 i8] (fun i9=>.branch (i9==4) (zkL 0 [] (zkL 0 [] (zkL 0 [] (zkL 0 [] (zkL 0 [] (zkL 0 [] (zkL 0 [] (zkL 0 [] (zkL 0 [] (zkL 0 [] (.ret (zkR (.tuple zk82) [])))))))))))) (zkL 0 l1 (zkL 0 l2 (zkL 0 l3 (zkL 0 l4 (zkL 0 l5 (zkL 0 l1 (zkL 0 l2 (zkL 0 l3 (zkL 0 l4 (zkL 0 l5 (.ret (zkR (.tuple (zk84 i2 i3 i4 l1 l2 l3 l4 l5)) [])))))))))))))))) (.branch (decide ((↑l6.length:Int)>0)) (.exI fun i9=>.exS fun s1=>zkI2 fun i10 i11=>.row l6 0 (zk9 i9 s1 i10 i11) (.need true (.branch (11 !=0) (zkL 0 [] (zkL 0 [] (zkL 0 [] (zkL 0 [] (zkL 0 [] (zkL 0 [] (zkL 0 [] (zkL 0 [] (zkL 0 [] (zkL 0 [] (.ret (zkR (.tuple [.agg zk41,vI i11,vI 11]) [])))))))))))) (zk16 b1E (zk67 i2 i3 i4 l1 l2 l3 l4 l5) [zk1 l6 i5 i6 i7 i8] (fun i12=>.branch (i12==4) (zkL 0 [] (zkL 0 [] (zkL 0 [] (zkL 0 [] (zkL 0 [] (zkL 0 [] (zkL 0 [] (zkL 0 [] (zkL 0 [] (zkL 0 [] (.ret (zkR (.tuple zk82) [])))))))))))) (zkL 0 l1 (zkL 0 l2 (zkL 0 l3 (zkL 0 l4 (zkL 0 l5 (zkL 0 l1 (zkL 0 l2 (zkL 0 l3 (zkL 0 l4 (zkL 0 l5 (.ret (zkR (.tuple (zk84 i2 i3 i4 l1 l2 l3 l4 l5)) []))))))))))))))))) (.need true (.branch (0 !=0) (zkL 0 [] (zkL 0 [] (zkL 0 [] (zkL 0 [] (zkL 0 [] (zkL 0 [] (zkL 0 [] (zkL 0 [] (zkL 0 [] (zkL 0 [] (.ret (zkR (.tuple i2X) [])))))))))))) (zk16 b1E (zk67 i2 i3 i4 l1 l2 l3 l4 l5) [zk1 l6 i5 i6 i7 i8] (fun i9=>.branch (i9==4) (zkL 0 [] (zkL 0 [] (zkL 0 [] (zkL 0 [] (zkL 0 [] (zkL 0 [] (zkL 0 [] (zkL 0 [] (zkL 0 [] (zkL 0 [] (.ret (zkR (.tuple zk82) [])))))))))))) (zkL 0 l1 (zkL 0 l2 (zkL 0 l3 (zkL 0 l4 (zkL 0 l5 (zkL 0 l1 (zkL 0 l2 (zkL 0 l3 (zkL 0 l4 (zkL 0 l5 (.ret (zkR (.tuple (zk84 i2 i3 i4 l1 l2 l3 l4 l5)) []))))))))))))))))))) (fun l1 i2 i3 i4 i5=>.ret (zkQ zkF0 [])))))):=by kernel_rfl
theorem z1B (s:ByteArray):ktc7 b1P [] []=
 zkI3 fun i i1 i2=>zkR5 fun l l1 l2 l3 l4=>zkI2 fun i3 i4=>.call b1p [vS zkb35] .none [] (zkR (.tuple [.agg (zk7 i i1 i2 l l1 l2 l3 l4),vI i3,vI i4]) []) (zkI3 fun i5 i6 i7=>zkR5 fun l5 l6 l7 l8 l9=>zkI2 fun i8 i9=>.call b1p [vS zkb36] .none [] (zkR (.tuple [.agg (zk7 i5 i6 i7 l5 l6 l7 l8 l9),vI i8,vI i9]) []) (.exI fun i10=>.exS fun s1=>zkR2 fun l10 l11=>zkI2 fun i11 i12=>zk111 c1j [vS zkb37] [] i10 s1 l10 l11 i11 i12 (.branch (i4==0) (.branch (i==13) (.branch (i1==1) (.branch ((↑l2.length:Int)==2) (zkI3 fun i13 i14 i15=>zkR5 fun l12 l13 l14 l15 l16=>.row l2 0 (zk7 i13 i14 i15 l12 l13 l14 l15 l16) (.branch (i13==8) (.branch (i9==11) (.branch (i8==6) (.branch (i12==0) (.ret (zkR (vB (i10==3)) [])) (.ret (zkR (vB false) []))) (.ret (zkR (vB false) []))) (.ret (zkR (vB false) []))) (.ret (zkR (vB false) [])))) (.ret (zkR (vB false) []))) (.ret (zkR (vB false) []))) (.ret (zkR (vB false) []))) (.ret (zkR (vB false) []))))):=by kernel_rfl
end Go.Proofs
end

section
/- PARSE: the chapter's examples come -/
set_option linter.unusedVariables false
set_option linter.unusedSimpArgs false
set_option maxRecDepth 100000
open Go Go.Eng
namespace Go.Proofs
theorem x1j:evp b1P [] .none []=some ⟨.ret (vB true),.none,[]⟩:=by
 refine d2r (a1j (z1B ⟨#[]⟩) ⟨_,_,_,_,_,_,_,_,_,_,a_A,_,_,_,_,_,_,_,_,_,_,a_B,_,_,_,_,_,_,a_C,?_⟩)
 exact a1d (fun _=>a1d (fun _=>a1d (fun _=>a1d (fun _=>⟨_,_,_,_,_,_,_,_,⟨Int.le_refl _,rfl⟩,a1d (fun _=>a1d (fun _=>a1d (fun _=>a1d (fun _=>rfl) (fun h=>absurd h (by decide))) (fun h=>absurd h (by decide))) (fun h=>absurd h (by decide))) (fun h=>absurd h (by decide))⟩) (fun h=>absurd h (by decide))) (fun h=>absurd h (by decide))) (fun h=>absurd h (by decide))) (fun h=>absurd h (by decide))
end Go.Proofs
end

section
/-
  THE ENGINE, part 31: a tree without the ways that can't be gone: which side a branch is taken to is told by hints (PH; a number's digits); what a hint says of a truth value that is not plain stays to be shown (.need).
-/
set_option linter.unusedVariables false
set_option linter.unusedSimpArgs false
namespace Go.Eng
inductive PH where
 |k
 |l (h:PH)
 |r (h:PH)
 |L (h:PH)
 |R (h:PH)
 |b (x y:PH)
 |n (h:PH)
 |m (h:PH)
def phGo:Nat→Nat→PH×Nat
 |0,d=>(.k,d)
 |f+1,d=>match d%8 with
  |0=>(.k,d/8)
  |1=>(.l (phGo f (d/8)).1,(phGo f (d/8)).2)
  |2=>(.r (phGo f (d/8)).1,(phGo f (d/8)).2)
  |3=>(.L (phGo f (d/8)).1,(phGo f (d/8)).2)
  |4=>(.R (phGo f (d/8)).1,(phGo f (d/8)).2)
  |5=>match phGo f (d/8) with
   |(x,e)=>(.b x (phGo f e).1,(phGo f e).2)
  |6=>(.n (phGo f (d/8)).1,(phGo f (d/8)).2)
  |_=>(.m (phGo f (d/8)).1,(phGo f (d/8)).2)
def PH.of (d:Nat):PH:=(phGo 10000 d).1
noncomputable def KT.prune (t:KT):PH→KT:=
 KT.rec (motive:=fun _=>PH→KT)
  (fun _=>.fail) (fun s _=>.done s) (fun _ ih h=>.out (ih h)) (fun r _=>.ret r)
  (fun b t f iht ihf h=>match h with
   | .l h=>.need b (iht h)
   | .r h=>.need (!b) (ihf h)
   | .L h=>match b with
    |true=>iht h
    |false=>.fail
   | .R h=>match b with
    |true=>.fail
    |false=>ihf h
   | .b x y=>.branch b (iht x) (ihf y)
   |_=>.branch b t f)
  (fun b t ih h=>match h with
   | .n h=>match b with
    |true=>ih h
    |false=>.fail
   | .m h=>.need b (ih h)
   |_=>.need b t)
  (fun _ ih h=>.exI fun i=>ih i h) (fun _ ih h=>.exB fun i=>ih i h) (fun _ ih h=>.exS fun i=>ih i h) (fun _ ih h=>.exR fun i=>ih i h) (fun _ ih h=>.exA fun i=>ih i h) (fun _ ih h=>.exY fun i=>ih i h)
  (fun rows i cells _ ih h=>.row rows i cells (ih h)) (fun s i b _ ih h=>.byte s i b (ih h)) (fun rows s _ ih h=>.bytes rows s (ih h)) (fun p _ ih h=>.prop p (ih h)) (fun g args rm H r _ ih h=>.call g args rm H r (ih h))
  (fun t f iht ihf h=>match h with
   | .b x y=>.alt (iht x) (ihf y)
   |_=>.alt t f)
  (fun _ k ih _ h=>.stage (ih h) k)
  (fun f b x s k _ _=>.loop f b x s k)
  t
section
variable {P:Program} {cfg:FuncId→FCfg} {call:CallF}
theorem e2v (t:KT):∀(h:PH) (QD:List (St→Prop)) (QR:CRes→Prop),(t.prune h).wp P cfg call QD QR→t.wp P cfg call QD QR:=by
 induction t with
 |fail=>intro h QD QR w;exact w
 |done s=>intro h QD QR w;exact w
 |out t ih=>
  intro h QD QR w
  cases QD with
  |nil=>exact w
  |cons Q r=>exact ih h r QR w
 |ret r=>intro h QD QR w;exact w
 |branch b t f iht ihf=>
  intro h QD QR w
  cases h with
  |l h=>exact⟨fun _=>iht h QD QR w.2,fun e=>(by have:=w.1;rw[e] at this;cases this)⟩
  |r h=>exact⟨fun e=>(by have:=w.1;rw[e] at this;cases this),fun _=>ihf h QD QR w.2⟩
  |L h=>cases b with
   |true=>exact⟨fun _=>iht h QD QR w,fun e=>by cases e⟩
   |false=>exact False.elim w
  |R h=>cases b with
   |true=>exact False.elim w
   |false=>exact⟨fun e=>(by cases e),fun _=>ihf h QD QR w⟩
  |b x y=>exact⟨fun e=>iht x QD QR (w.1 e),fun e=>ihf y QD QR (w.2 e)⟩
  |k=>exact w
  |n h=>exact w
  |m h=>exact w
 |need b t ih=>
  intro h QD QR w
  cases h with
  |n h=>cases b with
   |true=>exact⟨rfl,ih h QD QR w⟩
   |false=>exact False.elim w
  |m h=>exact⟨w.1,ih h QD QR w.2⟩
  |k=>exact w
  |l h=>exact w
  |r h=>exact w
  |L h=>exact w
  |R h=>exact w
  |b x y=>exact w
 |exI k ih=>intro h QD QR w;obtain⟨i,w⟩:=w;exact⟨i,ih i h QD QR w⟩
 |exB k ih=>intro h QD QR w;obtain⟨i,w⟩:=w;exact⟨i,ih i h QD QR w⟩
 |exS k ih=>intro h QD QR w;obtain⟨i,w⟩:=w;exact⟨i,ih i h QD QR w⟩
 |exR k ih=>intro h QD QR w;obtain⟨i,w⟩:=w;exact⟨i,ih i h QD QR w⟩
 |exA k ih=>intro h QD QR w;obtain⟨i,w⟩:=w;exact⟨i,ih i h QD QR w⟩
 |exY k ih=>intro h QD QR w;obtain⟨i,w⟩:=w;exact⟨i,ih i h QD QR w⟩
 |row rows i cells k ih=>intro h QD QR w;exact⟨w.1,ih h QD QR w.2⟩
 |byte s i b k ih=>intro h QD QR w;exact⟨w.1,ih h QD QR w.2⟩
 |bytes rows s k ih=>intro h QD QR w;exact⟨w.1,ih h QD QR w.2⟩
 |prop p k ih=>intro h QD QR w;exact⟨w.1,ih h QD QR w.2⟩
 |call g args rm H r k ih=>intro h QD QR w;exact⟨w.1,ih h QD QR w.2⟩
 |alt t f iht ihf=>
  intro h QD QR w
  cases h with
  |b x y=>exact w.imp (iht x QD QR) (ihf y QD QR)
  |k=>exact w
  |n h=>exact w
  |m h=>exact w
  |l h=>exact w
  |r h=>exact w
  |L h=>exact w
  |R h=>exact w
 |stage t k ih _=>intro h QD QR w;exact ih h _ QR w
 |loop f b x s k ih=>intro h QD QR w;exact w
theorem b1g {t t':KT} {d:Nat} {QD:List (St→Prop)} {QR:CRes→Prop} (h:t.prune (PH.of d)=t') (w:t'.wp P cfg call QD QR):t.wp P cfg call QD QR:=e2v t _ _ _ (h▸w)
end
end Go.Eng
end

section
/- TREES: words for what recurs in printed trees (by ktz.py) -/
set_option linter.unusedVariables false
open Go Go.Eng
open IntKind (wrap)
namespace Go.Proofs
abbrev zqF0:AV:=.iface a1p (.agg [])
abbrev zqR6 (K:List (List AV)→List (List AV)→List (List AV)→List (List AV)→List (List AV)→List (List AV)→KT):KT:=.exR fun v0=>.exR fun v1=>.exR fun v2=>.exR fun v3=>.exR fun v4=>.exR fun v5=>K v0 v1 v2 v3 v4 v5
abbrev zqI4 (K:Int→Int→Int→Int→KT):KT:=.exI fun v0=>.exI fun v1=>.exI fun v2=>.exI fun v3=>K v0 v1 v2 v3
abbrev zqI3 (K:Int→Int→Int→KT):KT:=.exI fun v0=>.exI fun v1=>.exI fun v2=>K v0 v1 v2
abbrev zqI2 (K:Int→Int→KT):KT:=.exI fun v0=>.exI fun v1=>K v0 v1
abbrev zqN (n:Nat) (l:List (List AV)):AV:=.slice n l .no
abbrev zqP:AV:=.ptr 0 0
abbrev zqR (v:AV) (h:Heap):CRes:=⟨.ret v,.none,h⟩
abbrev zqQ (v:AV) (h:Heap):CRes:=⟨.panic v,.none,h⟩
abbrev zqL (n:Nat) (l:List (List AV)) (k:KT):KT:=.need (lowss n l) k
abbrev zqS (n:Nat) (t:List (Nat×AV)) (l:List (Nat×Nat×List AV)) (h:Heap) (k:Nat):St:=⟨tm2 n t,lm2 n l,⟨h,[],.none,k⟩⟩
abbrev zq1 (x0 x1 x2:Int) (x3 x4 x5 x6 x7:List (List AV)):List AV:=[vI x0,vI x1,vI x2,zqN 1 x3,zqN 5 x4,zqN 8 x5,zqN 9 x6,zqN 4 x7]
abbrev zq3 (g:FuncId) (a:List AV) (h:Heap) (K:Bool→KT):KT:=.exB fun v0=>.call g a .none h ⟨.ret (vB v0),.none,h⟩ (K v0)
abbrev zq4 (x0:List (List AV)) (x1 x2 x3 x4:Int):List AV:=[zqN 4 x0,vI x1,vI x2,vI x3,vI x4]
abbrev zq5:Bool→KT:=fun v0=>.ret ⟨.ret (vB v0),.none,[]⟩
abbrev zq9 (g:FuncId) (a:List AV) (h:Heap) (K:Int→Int→Int→List (List AV)→List (List AV)→List (List AV)→List (List AV)→List (List AV)→Int→Int→KT):KT:=.exI fun v0=>.exI fun v1=>.exI fun v2=>.exR fun v3=>.exR fun v4=>.exR fun v5=>.exR fun v6=>.exR fun v7=>.exI fun v8=>.exI fun v9=>.call g a .none h ⟨.ret (.tuple [.agg [vI v0,vI v1,vI v2,zqN 1 v3,zqN 5 v4,zqN 8 v5,zqN 9 v6,zqN 4 v7],vI v8,vI v9]),.none,h⟩ (K v0 v1 v2 v3 v4 v5 v6 v7 v8 v9)
abbrev zq10:List AV:=[vI 0,vI 0,vI 0,zqN 1 [],zqN 5 [],zqN 8 [],zqN 9 [],zqN 4 []]
abbrev zq11:Bool→KT:=fun v0=>.out (.ret ⟨.ret (vB v0),.none,[]⟩)
abbrev zq12 (x0 x1 x2:Int) (x3 x4 x5 x6 x7:List (List AV)) (x8 x9 x10:Int) (x11 x12 x13 x14 x15:List (List AV)):List AV:=[.agg [vI x0,vI x1,vI x2,zqN 1 x3,zqN 5 x4,zqN 8 x5,zqN 9 x6,zqN 4 x7],.agg [vI x8,vI x9,vI x10,zqN 1 x11,zqN 5 x12,zqN 8 x13,zqN 9 x14,zqN 4 x15]]
abbrev zq13 (x0 x1:Int):List AV:=[.agg [vI 0,vI 0,vI 0,zqN 1 [],zqN 5 [],zqN 8 [],zqN 9 [],zqN 4 []],vI x0,vI x1]
abbrev zq14 (g:FuncId) (a:List AV) (h:Heap) (x0:List (List AV)) (x1 x2:Int) (K:KT):KT:=.call g a .none h ⟨.ret (.tuple [zqN 4 x0,vI x1,vI x2]),.none,h⟩ K
abbrev zq15 (x0:Int):List AV:=[.agg [vI 0,vI 0,vI 0,zqN 1 [],zqN 5 [],zqN 8 [],zqN 9 [],zqN 4 []],vI x0,vI 11]
end Go.Proofs
end

section
/- TREES, printed by kt.py out of y21.txt -/
open Go Go.Eng
open IntKind (wrap)
namespace Go.Proofs
set_option linter.unusedVariables false
set_option maxRecDepth 100000
theorem c2H (s:ByteArray):(ktc7 b1p [vS s] []).prune (PH.of 1645504555952906452068002576381423892046613144788926756105710709)=
 .exR fun l=>zqI2 fun i i1=>zq14 c1N [vS s] [] l i i1 (.branch (i1 !=0) (.need (i1 !=0) (.ret (zqR (.tuple (zq13 i i1)) []))) (.alt (zqI3 fun i2 i3 i4=>zqR6 fun l1 l2 l3 l4 l5 l6=>zqI4 fun i5 i6 i7 i8=>.call a1i [zqP] .none [[zqN 4 l,vI (↑s.size:Int),vI 0,vI 0,vI 0]] (zqR (.agg (zq1 i2 i3 i4 l1 l2 l3 l4 l5)) [zq4 l6 i5 i6 i7 i8]) (.branch (i6 !=0) (.need (i6 !=0) (.ret (zqR (.tuple (zq13 i7 i6)) []))) (.branch (decide ((↑l6.length:Int)>0)) (.exI fun i9=>.exS fun s1=>zqI2 fun i10 i11=>.row l6 0 [vI i9,vS s1,vI i10,vI i11] (.ret (zqR (.tuple (zq15 i11)) []))) (.exI fun i9=>.call b1E [.agg (zq1 i2 i3 i4 l1 l2 l3 l4 l5)] .none [zq4 l6 i5 i6 i7 i8] (zqR (vI i9) [zq4 l6 i5 i6 i7 i8]) (.branch (i9==4) (.ret (zqR (.tuple [.agg zq10,vI 0,vI 4]) [])) (zqL 0 l1 (zqL 0 l2 (zqL 0 l3 (zqL 0 l4 (zqL 0 l5 (zqL 0 l1 (zqL 0 l2 (zqL 0 l3 (zqL 0 l4 (zqL 0 l5 (.ret (zqR (.tuple [.agg (zq1 i2 i3 i4 l1 l2 l3 l4 l5),vI 0,vI 0]) []))))))))))))))))) (.exR fun l1=>zqI4 fun i2 i3 i4 i5=>.call a1i [zqP] .none [[zqN 4 l,vI (↑s.size:Int),vI 0,vI 0,vI 0]] (zqQ zqF0 [zq4 l1 i2 i3 i4 i5]) (.ret (zqQ zqF0 []))))):=by kernel_rfl
@[irreducible] noncomputable def m1l (s:ByteArray):KT:=ktc7 c1I [vS s] []
theorem n1Z (s:ByteArray):(ktc7 c1I [vS s] []).prune (PH.of 325)=
 .exR fun l=>zqI2 fun i i1=>zq14 c1N [vS s] [] l i i1 (.exS fun s1=>.call f1i [zqN 4 l] .none [] (zqR (vS s1) []) (.stage (.branch (i1 !=0) (zq3 b1P [] [] zq11) (.branch (decide ((↑s1.size:Int)>4096)) (zq3 b1P [] [] zq11) (.done (zqS 52 [(0,vS s),(6,vS s1)] [] [] 0)))) ((((((m1l s).R l).I i).I i1).T.S s1).T.K))):=by kernel_rfl
theorem m1m (s:ByteArray) (l i i1) (s1:ByteArray):((((((m1l s).R l).I i).I i1).T.S s1).T.K (zqS 52 [(0,vS s),(6,vS s1)] [] [] 0)).prune (PH.of 45)=
 zq9 b1p [vS s] [] (fun i2 i3 i4 l1 l2 l3 l4 l5 i5 i6=>zq9 b1p [vS s1] [] (fun i7 i8 i9 l6 l7 l8 l9 l10 i10 i11=>.branch (i6==i11) (zq3 b1N (zq12 i2 i3 i4 l1 l2 l3 l4 l5 i7 i8 i9 l6 l7 l8 l9 l10) [] (fun b=>.branch b (zq3 b1P [] [] zq5) (.ret (zqR (vB false) [])))) (.ret (zqR (vB false) [])))):=by kernel_rfl
end Go.Proofs
end
