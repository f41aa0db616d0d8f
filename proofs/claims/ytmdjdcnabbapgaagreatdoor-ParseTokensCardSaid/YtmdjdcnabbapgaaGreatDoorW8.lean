/- Texts of this proof folded into one: L0. -/
import Derived.Test.YtmdjdcnabbapgaaGreatDoorW7
section
/- LEX: what the program's functions answer, part 0: aids; sorted -/
open Go Go.Eng Go.Lx
namespace Go.Proofs
set_option linter.unusedVariables false
set_option linter.unusedSimpArgs false
set_option maxRecDepth 100000
abbrev tx (s:ByteArray):T:=s.data.toList
abbrev vY (c:UInt8):AV:=.val (.int .u8 c.toNat)
def BIG:Nat:=4611686018427387904
theorem d1J (s:ByteArray):(tx s).length=s.size:=by simp [tx]
theorem x1D (s:ByteArray) (a b:Nat):tx (s.extract a b)=((tx s).drop a).take (b-a):=by
 simp only[tx,ByteArray.data_extract,Array.toList_extract,List.extract_eq_take_drop]
theorem b2T {s t:ByteArray} (h:tx s=tx t):s=t:=by
 cases s;cases t
 simp only[tx] at h
 rw[Array.toList_inj.1 h]
theorem n1B (a b:ByteArray):(a.toList==b.toList)=decide (tx a=tx b):=by
 rw[ByteArray.toList_eq,ByteArray.toList_eq]
 by_cases e:a.data.toList=b.data.toList
 ·simp [e]
 ·simp [e]
  intro h;exact e (by rw[h])
theorem s1p {s:ByteArray} {i:Nat} (h:i<s.size):∃c r,(tx s).drop i=c::r∧s[i]? =some c∧r=(tx s).drop (i+1):=by
 have h2:i<(tx s).length:=by rw[d1J];exact h
 refine⟨(tx s)[i],(tx s).drop (i+1),List.drop_eq_getElem_cons h2,?_,rfl⟩
 rw[getElem?_pos s i h];rfl
theorem tx_of {s:ByteArray} {i:Nat} {c:UInt8} {r:T} (h:(tx s).drop i=c::r):i<s.size∧s[i]? =some c∧r=(tx s).drop (i+1):=by
 have hi:i<s.size:=by
  have:=congrArg List.length h
  simp [d1J] at this
  rw[←d1J];simp [tx];have e:=d1J s;simp [tx] at e;omega
 obtain⟨c',r',h1,h2,h3⟩:=s1p hi
 rw[h1] at h;injection h with e1 e2
 subst e1 e2
 exact⟨hi,h2,h3⟩
theorem e1u {x y:AV} (h:x=y):(⟨.ret x,.none,[]⟩:CRes)=⟨.ret y,.none,[]⟩:=by rw[h]
theorem ac {f:FuncId} {args:List AV} {H:Heap} {r:CRes} (k:Nat) (h:e1m Pg cfg0 gx.ext k f args .none H=some r):evp f args .none H=some r:=o1N.2 ⟨k,h⟩
section
variable {QD:List (St→Prop)} {QR:CRes→Prop}
theorem u1E {s:ByteArray} {i:Nat} {c:UInt8} {k:UInt8→KT} (h:s[i]? =some c) (hk:(k c).wp Pg cfg0 evp QD QR):(KT.exY fun y=>.byte s (i:Int) y (k y)).wp Pg cfg0 evp QD QR:=
 ⟨c,⟨Int.natCast_nonneg i,by rw[Int.toNat_natCast];exact h⟩,hk⟩
end
noncomputable def chkS (n:Nat):Bool:=
 match e1m Pg cfg0 gx.ext 20 c1P [.val (.int .u8 n)] .none [] with
 |some ⟨.ret (.agg [.val (.bool a),.val (.bool b),.val (.bool c),.val (.bool d),.val (.bool e),.val (.bool f)]),.none,[]⟩=>
  (a==low (UInt8.ofNat n))&&((b==high (UInt8.ofNat n))&&((c==digit (UInt8.ofNat n))&&((d==i1m (UInt8.ofNat n))&&((e==tyvB (UInt8.ofNat n))&&(f==Lx.i1l (UInt8.ofNat n))))))
 |_=>false
theorem e2S:((List.range 256).all fun n=>chkS n)=true:=by kernel_rfl
theorem k1w (c:UInt8):evp c1P [vY c] .none []=some ⟨.ret (.agg [vB (low c),vB (high c),vB (digit c),vB (i1m c),vB (tyvB c),vB (Lx.i1l c)]),.none,[]⟩:=by
 have h:=List.all_eq_true.1 e2S c.toNat (List.mem_range.2 c.toNat_lt)
 unfold chkS at h
 rw[UInt8.ofNat_toNat] at h
 split at h
 ·rename_i a b c' d e f he
  simp only[Bool.and_eq_true,beq_iff_eq] at h
  obtain⟨rfl,rfl,rfl,rfl,rfl,rfl⟩:=h
  exact ac 20 he
 ·cases h
end Go.Proofs
end
