/- Texts of this proof folded into one: L0c. -/
import Derived.Test.YtmdjdcnabbapgaaGreatDoorW8
section
/- LEX: strings.ContainsRune at the marks, byte by byte -/
open Go Go.Eng Go.Lx
namespace Go.Proofs
set_option linter.unusedVariables false
set_option maxRecDepth 100000
noncomputable def chkC (n:Nat):Bool:=
 match e1m Pg cfg0 gx.ext 20 c1y [.val (.string ⟨#[40,41,44,59,58,61,42,43,45,47,60,124,95,46]⟩),.val (.int .i32 n)] .none [] with
 |some ⟨.ret (.val (.bool b)),.none,[]⟩=>b==z1i.contains (UInt8.ofNat n)
 |_=>false
theorem j2a:((List.range 16).all fun n=>chkC (0+n))=true:=by kernel_rfl
theorem j2b:((List.range 16).all fun n=>chkC (16+n))=true:=by kernel_rfl
theorem j2c:((List.range 16).all fun n=>chkC (32+n))=true:=by kernel_rfl
theorem j2d:((List.range 16).all fun n=>chkC (48+n))=true:=by kernel_rfl
theorem j2e:((List.range 16).all fun n=>chkC (64+n))=true:=by kernel_rfl
theorem j2f:((List.range 16).all fun n=>chkC (80+n))=true:=by kernel_rfl
theorem j2g:((List.range 16).all fun n=>chkC (96+n))=true:=by kernel_rfl
theorem j2h:((List.range 16).all fun n=>chkC (112+n))=true:=by kernel_rfl
theorem j2i:((List.range 16).all fun n=>chkC (128+n))=true:=by kernel_rfl
theorem j2j:((List.range 16).all fun n=>chkC (144+n))=true:=by kernel_rfl
theorem h2n:((List.range 16).all fun n=>chkC (160+n))=true:=by kernel_rfl
theorem h2o:((List.range 16).all fun n=>chkC (176+n))=true:=by kernel_rfl
theorem h2p:((List.range 16).all fun n=>chkC (192+n))=true:=by kernel_rfl
theorem h2q:((List.range 16).all fun n=>chkC (208+n))=true:=by kernel_rfl
theorem h2r:((List.range 16).all fun n=>chkC (224+n))=true:=by kernel_rfl
theorem h2s:((List.range 16).all fun n=>chkC (240+n))=true:=by kernel_rfl
theorem e2T (n:Nat) (h:n<256):chkC n=true:=by
 have key:∀k,k<16→((List.range 16).all fun n=>chkC (16*k+n))=true:=by
  intro k hk
  rcases (show k=0∨k=1∨k=2∨k=3∨k=4∨k=5∨k=6∨k=7∨k=8∨k=9∨k=10∨k=11∨k=12∨k=13∨k=14∨k=15 by omega) with rfl|rfl|rfl|rfl|rfl|rfl|rfl|rfl|rfl|rfl|rfl|rfl|rfl|rfl|rfl|rfl
  ·exact j2a
  ·exact j2b
  ·exact j2c
  ·exact j2d
  ·exact j2e
  ·exact j2f
  ·exact j2g
  ·exact j2h
  ·exact j2i
  ·exact j2j
  ·exact h2n
  ·exact h2o
  ·exact h2p
  ·exact h2q
  ·exact h2r
  ·exact h2s
 have h1:=List.all_eq_true.1 (key (n/16) (by omega)) (n%16) (List.mem_range.2 (by omega))
 have e:16*(n/16)+n%16=n:=by omega
 simp only[e] at h1
 exact h1
theorem j2k (c:UInt8):IntKind.i32.wrap (c.toNat:Int)=(c.toNat:Int):=by
 have:=c.toNat_lt
 rw[IntKind.wrap_i32];omega
theorem q1I (c:UInt8):evp c1y [vS ⟨#[40,41,44,59,58,61,42,43,45,47,60,124,95,46]⟩,.val (.int .i32 (IntKind.i32.wrap (c.toNat:Int)))] .none []=some ⟨.ret (vB (z1i.contains c)),.none,[]⟩:=by
 have h:=e2T c.toNat c.toNat_lt
 unfold chkC at h
 rw[UInt8.ofNat_toNat] at h
 rw[j2k]
 split at h
 ·rename_i b he
  simp only[beq_iff_eq] at h
  subst h
  exact ac 20 he
 ·cases h
end Go.Proofs
end
