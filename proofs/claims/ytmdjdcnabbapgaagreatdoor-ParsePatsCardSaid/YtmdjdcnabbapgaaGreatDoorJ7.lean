/- Texts of this proof folded into one: E30 TC XL1 P1 P2 P3. -/
import Derived.Test.YtmdjdcnabbapgaaGreatDoorJ5
import Derived.Test.YtmdjdcnabbapgaaGreatDoorJ6
import Derived.Lib.ParseIntB
import Derived.Lib.Join
import Derived.Lib.Bytealg
import Derived.Test.YtmdjdcnabbapgaaGreatDoorProg
import Derived.KernelRfl
section
/-
  THE ENGINE, part 30: contracts of functions (of Go's library) that stand in place of their code: plain answers out of plain arguments.
-/
set_option linter.unusedVariables false
set_option linter.unusedSimpArgs false
namespace Go.Eng
open Go.RowKit
abbrev PExt := FuncId → Option (List AV → Option AV)
def PExt.ext (g : PExt) : Ext := fun f => (g f).map fun e args H => (e args).map fun v => (Out.ret v, H)
structure PSound (P : Program) (I0 : Mem) (g : PExt) : Prop where
  sound : ∀ f e, g f = some e → ∀ args v, e args = some v → ∀ I μ w cargs, LeM I0 I → ImmOk I w → RepL I μ cargs args →
    Calls P f cargs.toArray w fun e' w' => ∃ v', e' = .returned v' ∧ Rep I μ v' v ∧ NoOwn v ∧ Below w.heap.size w w'
  ren : ∀ f e, g f = some e → ∀ args v, e args = some v → ∀ ρ : Nat → Nat, e (args.map (AV.ren ρ)) = some (v.ren ρ)
theorem below_eff {w w' : World} (h : Below w.heap.size w w') (I : Mem) (A : Nat → Prop) : Eff I w A I w' :=
  ⟨.refl I, fun _ _ _ h => .inl h, fun b hb _ => h.block b hb, h.size, h.os, h.tape, h.output⟩
theorem below_imm {I : Mem} {w w' : World} (h : Below w.heap.size w w') (hI : ImmOk I w) : ImmOk I w' := by
  intro b o v hv
  have h1 := hI b o v hv
  have hb := hI.lt hv
  refine ⟨?_, h1.2⟩
  have h2 := h1.1
  unfold World.cell? at h2 ⊢
  rw [h.block b hb]; exact h2
theorem PSound.ext {P : Program} {I0 : Mem} {g : PExt} (h : PSound P I0 g) : ExtSound P I0 g.ext := by
  intro f e he args H out H' heq I μ HV w cargs hI hh hr hs h1
  unfold PExt.ext at he
  rw [Option.map_eq_some_iff] at he
  obtain ⟨e0, he0, rfl⟩ := he
  rw [Option.map_eq_some_iff] at heq
  obtain ⟨v, hv, heq⟩ := heq
  injection heq with e1 e2
  subst e1 e2
  refine (h.sound f e0 he0 args v hv I μ w cargs hI hh.imm hr).mono ?_
  rintro e' w' ⟨v', rfl, r1, r2, r3⟩
  have heff := fun A => below_eff r3 I A
  have himm := below_imm r3 hh.imm
  refine ⟨I, μ, HV, hh.eff (heff fun _ => False) himm fun _ h => h.elim, heff _, .refl μ, ⟨v', rfl, r1, r2.spare w' v'⟩, fun b => ?_, fun b hb => ?_⟩
  · have := h1 b
    simp only [outTok, r2.tc]
    unfold argTok at this
    omega
  · left
    simp only [outTok, r2.tc] at hb
    unfold argTok
    omega
theorem PSound.extR {P : Program} {I0 : Mem} {g : PExt} (h : PSound P I0 g) {ρ : Nat → Nat} {n N : Nat} {F : Heap} : ExtR ρ n N F g.ext := by
  intro f e he args H out H' heq K hK
  unfold PExt.ext at he
  rw [Option.map_eq_some_iff] at he
  obtain ⟨e0, he0, rfl⟩ := he
  rw [Option.map_eq_some_iff] at heq
  obtain ⟨v, hv, heq⟩ := heq
  injection heq with e1 e2
  subst e1 e2
  exact ⟨K, by simp only [h.ren f e0 he0 args v hv ρ, Option.map_some, renOut], hK⟩
/-! ### contracts of the library's functions -/
def xIndexByte : List AV → Option AV
  | [.val (.string s), .val (.int .u8 c)] => if 0 ≤ c ∧ c < 256 then some (.val (.int .i64 (Lib.indexByte s.data.toList c.toNat.toUInt8))) else none
  | _ => none
def xParseInt (te : TypeId) : List AV → Option AV
  | [.val (.string s), .val (.int .i64 10), .val (.int .i64 64)] => if s.size ≤ 281474976710656 then match Lib.parseIntB 64 s.data.toList with
      | .ok v => some (.tuple [.val (.int .i64 v), .val .nilIface])
      | .range => some (.tuple [.val (.int .i64 (Lib.intSat 64 s.data.toList)), .iface te .any])
      | _ => none
    else none
  | _ => none
def strsOf : List (List AV) → Option (List ByteArray)
  | [] => some []
  | [.val (.string s)] :: r => (strsOf r).map (s :: ·)
  | _ :: _ => none
def xJoin : List AV → Option AV
  | [.slice _ rows _, .val (.string sep)] => match strsOf rows with
    | some xs => if xs.length ≤ 140737488355328 ∧ (Lib.join (xs.map (·.data.toList)) sep.data.toList).length ≤ 140737488355328 then
        some (.val (.string ⟨(Lib.join (xs.map (·.data.toList)) sep.data.toList).toArray⟩)) else none
    | none => none
  | _ => none
theorem strsOf_ren (ρ : Nat → Nat) : ∀ {rows : List (List AV)} {xs : List ByteArray}, strsOf rows = some xs → strsOf (renss ρ rows) = some xs
  | [], xs, h => h
  | r :: rows, xs, h => by
    unfold strsOf at h
    split at h
    · rename_i e; cases e
    · rename_i s r' e
      injection e with e1 e2
      subst e1 e2
      rw [Option.map_eq_some_iff] at h
      obtain ⟨ys, hy, rfl⟩ := h
      have := strsOf_ren ρ hy
      simp [renss, rens, AV.ren, strsOf, this]
    · cases h
theorem strsOf_cells {I : Mem} {μ : List Nat} : ∀ {rows : List (List AV)} {xs : List ByteArray} {ws : List Value}, strsOf rows = some xs → RepL I μ ws rows.flatten → ws = xs.map .string ∧ rows.length = xs.length
  | [], xs, ws, h, hr => by
    simp [strsOf] at h; subst h
    cases hr; exact ⟨rfl, rfl⟩
  | r :: rows, xs, ws, h, hr => by
    unfold strsOf at h
    split at h
    · rename_i e; cases e
    · rename_i s r' e
      injection e with e1 e2
      subst e1 e2
      rw [Option.map_eq_some_iff] at h
      obtain ⟨ys, hy, rfl⟩ := h
      cases ws with
      | nil => cases hr
      | cons w ws =>
        simp only [List.flatten_cons, List.cons_append, List.nil_append] at hr
        obtain ⟨h1, h2⟩ := hr.uncons
        obtain ⟨q1, q2⟩ := strsOf_cells hy h2
        cases h1
        exact ⟨by simp [q1], by simp [q2]⟩
    · cases h
end Go.Eng
end

section
open Go Go.Eng
namespace Go.Proofs
noncomputable abbrev Pg : Program := Tryz.prog
def cfgL : List FCfg := [⟨0, 0, 0, 0, [], false, false⟩,
  ⟨0, 0, 0, 0, [], false, false⟩,
  ⟨0, 0, 0, 0, [], false, false⟩,
  ⟨0, 72, 0, 0, [], false, false⟩,
  ⟨0, 72, 0, 0, [], false, false⟩,
  ⟨0, 584, 0, 0, [(1000004, 9)], false, false⟩,
  ⟨0, 2336, 0, 0, [(1000005, 291)], false, false⟩,
  ⟨0, 72, 0, 0, [], false, false⟩,
  ⟨0, 1152, 0, 0, [(1000005, 65)], false, false⟩,
  ⟨0, 4, 0, 0, [], false, false⟩,
  ⟨0, 260, 0, 0, [(1000008, 452)], false, false⟩,
  ⟨12, 0, 0, 0, [], false, false⟩,
  ⟨0, 146, 0, 0, [], false, false⟩,
  ⟨0, 4, 0, 0, [], false, false⟩,
  ⟨0, 260, 0, 0, [(1000008, 452)], false, false⟩,
  ⟨12, 0, 0, 0, [], false, false⟩,
  ⟨0, 4, 0, 0, [], false, false⟩,
  ⟨0, 260, 0, 0, [(1000008, 452)], false, false⟩,
  ⟨12, 0, 0, 0, [], false, false⟩,
  ⟨0, 512, 35184372088864, 0, [(0, 97), (1000013, 1697)], false, false⟩,
  ⟨0, 32, 4104, 0, [(0, 456)], false, false⟩,
  ⟨0, 8768, 0, 0, [], false, false⟩,
  ⟨0, 4, 0, 0, [], false, false⟩,
  ⟨2, 0, 0, 0, [], false, false⟩,
  ⟨0, 0, 0, 0, [], false, false⟩,
  ⟨0, 12, 0, 0, [], false, false⟩,
  ⟨0, 0, 0, 0, [], false, false⟩,
  ⟨2, 0, 0, 0, [], false, false⟩,
  ⟨0, 192, 0, 0, [(0, 35), (1000009, 227)], false, false⟩,
  ⟨0, 8768, 0, 0, [], false, false⟩,
  ⟨0, 4, 0, 0, [], false, false⟩,
  ⟨2, 0, 0, 0, [], false, false⟩,
  ⟨0, 12, 0, 0, [(1000004, 13)], false, false⟩,
  ⟨2, 0, 0, 0, [], false, false⟩,
  ⟨0, 192, 0, 0, [(0, 35), (1000009, 227)], false, false⟩,
  ⟨0, 8768, 0, 0, [], false, false⟩,
  ⟨0, 4, 0, 0, [], false, false⟩,
  ⟨2, 0, 0, 0, [], false, false⟩,
  ⟨0, 12, 0, 0, [], false, false⟩,
  ⟨2, 0, 0, 0, [], false, false⟩,
  ⟨0, 192, 0, 0, [(0, 35), (1000009, 227)], false, false⟩,
  ⟨0, 0, 0, 0, [(0, 3)], false, false⟩,
  ⟨0, 80, 0, 0, [(1, 135399691796838467567091731), (1000015, 1043), (1000018, 19)], false, false⟩,
  ⟨0, 0, 0, 0, [(1, 3848290697251), (3, 64563604257983430914), (1000010, 35), (1000011, 35), (1000016, 3848290697379)], false, false⟩,
  ⟨0, 0, 0, 0, [], false, false⟩,
  ⟨0, 0, 0, 0, [], false, false⟩,
  ⟨4, 0, 0, 0, [(1000005, 22)], false, false⟩,
  ⟨0, 60, 0, 0, [], false, false⟩,
  ⟨0, 0, 0, 0, [], false, false⟩,
  ⟨4, 0, 0, 0, [], false, false⟩,
  ⟨0, 0, 0, 0, [], false, false⟩,
  ⟨2, 0, 0, 0, [(1000002, 2), (1000005, 2), (1000006, 2), (1000007, 2), (1000011, 30), (1000012, 2), (1000013, 2), (1000016, 2), (1000018, 2)], false, false⟩,
  ⟨0, 256, 549755813920, 0, [(0, 225)], false, false⟩,
  ⟨0, 60, 0, 0, [], false, false⟩,
  ⟨0, 0, 0, 0, [], false, false⟩,
  ⟨0, 0, 0, 0, [(0, 25)], false, false⟩,
  ⟨2, 0, 0, 0, [(1000007, 2)], false, false⟩,
  ⟨0, 0, 0, 0, [(0, 35)], false, false⟩,
  ⟨0, 192, 0, 0, [(0, 35), (1000009, 227)], false, false⟩,
  ⟨4, 0, 0, 0, [(1000005, 22)], false, false⟩,
  ⟨0, 12, 0, 0, [], false, false⟩,
  ⟨4, 0, 0, 0, [], false, false⟩,
  ⟨0, 0, 0, 0, [], false, false⟩,
  ⟨2, 0, 0, 0, [(1000002, 2), (1000003, 2), (1000006, 2), (1000008, 2)], false, false⟩,
  ⟨0, 12, 0, 0, [(0, 13)], false, false⟩,
  ⟨0, 0, 0, 0, [], false, false⟩,
  ⟨0, 0, 0, 0, [(0, 25)], false, false⟩,
  ⟨2, 0, 0, 0, [(1000005, 2), (1000011, 2), (1000016, 2)], false, false⟩,
  ⟨4, 0, 0, 0, [(1000005, 22)], false, false⟩,
  ⟨0, 36, 0, 0, [], false, false⟩,
  ⟨4, 0, 0, 0, [], false, false⟩,
  ⟨0, 0, 0, 0, [], false, false⟩,
  ⟨2, 0, 0, 0, [(1000002, 2), (1000003, 2), (1000009, 2), (1000011, 2)], false, false⟩,
  ⟨0, 12, 0, 0, [], false, false⟩,
  ⟨0, 0, 0, 0, [(0, 25)], false, false⟩,
  ⟨2, 0, 0, 0, [(1000009, 2)], false, false⟩,
  ⟨0, 12, 0, 0, [(1000003, 13), (1000004, 13), (1000006, 13), (1000011, 13), (1000012, 13)], false, false⟩,
  ⟨0, 0, 0, 0, [], false, false⟩,
  ⟨0, 0, 0, 0, [(0, 35)], false, false⟩,
  ⟨0, 320, 0, 0, [(1000006, 320)], false, false⟩,
  ⟨0, 0, 0, 0, [(0, 7)], false, false⟩,
  ⟨2, 0, 0, 0, [], false, false⟩,
  ⟨0, 0, 0, 0, [], false, false⟩,
  ⟨2, 0, 0, 0, [], false, false⟩,
  ⟨0, 0, 0, 0, [], false, false⟩,
  ⟨0, 0, 0, 0, [(1000003, 3)], false, false⟩,
  ⟨0, 0, 4096, 0, [], false, false⟩,
  ⟨0, 0, 0, 0, [], false, false⟩,
  ⟨0, 24, 0, 0, [], false, false⟩,
  ⟨0, 0, 0, 0, [], false, false⟩,
  ⟨8, 0, 0, 0, [], false, false⟩,
  ⟨0, 240, 0, 0, [(0, 243), (2, 50332147)], false, false⟩,
  ⟨0, 0, 0, 0, [], false, false⟩,
  ⟨0, 32, 0, 0, [(0, 450)], false, false⟩,
  ⟨4, 0, 0, 0, [], false, false⟩,
  ⟨4, 0, 0, 0, [], false, false⟩,
  ⟨0, 0, 0, 0, [], false, false⟩,
  ⟨4, 0, 0, 0, [], false, false⟩,
  ⟨0, 0, 0, 0, [], false, false⟩,
  ⟨0, 0, 0, 0, [], false, false⟩,
  ⟨0, 32, 0, 0, [(0, 450)], false, false⟩,
  ⟨2, 0, 0, 0, [], false, false⟩,
  ⟨0, 0, 0, 0, [], false, false⟩,
  ⟨0, 0, 0, 0, [], false, false⟩,
  ⟨0, 32, 0, 0, [(0, 450)], false, false⟩,
  ⟨2, 252, 0, 0, [(1000002, 2), (1000019, 510), (1000029, 514)], false, false⟩,
  ⟨0, 32, 0, 0, [(0, 450)], false, false⟩,
  ⟨0, 0, 0, 0, [(0, 3)], false, false⟩,
  ⟨0, 80, 0, 0, [(1, 211), (1000010, 211), (1000015, 83), (1000027, 211)], false, false⟩,
  ⟨0, 0, 0, 0, [], false, false⟩,
  ⟨0, 12, 0, 0, [], false, false⟩,
  ⟨0, 0, 0, 0, [], false, false⟩,
  ⟨0, 0, 0, 0, [(0, 25)], false, false⟩,
  ⟨2, 0, 0, 0, [(1000002, 10), (1000004, 2), (1000006, 2)], false, false⟩,
  ⟨0, 0, 0, 0, [], false, false⟩,
  ⟨0, 0, 0, 0, [(0, 9)], false, false⟩,
  ⟨0, 0, 0, 0, [(0, 9)], false, false⟩,
  ⟨0, 0, 0, 0, [(0, 9)], false, false⟩,
  ⟨0, 0, 0, 0, [(0, 9)], false, false⟩,
  ⟨0, 192, 0, 0, [(0, 35)], false, false⟩,
  ⟨0, 192, 0, 0, [(0, 35), (1000009, 227)], false, false⟩,
  ⟨0, 192, 0, 0, [(0, 35), (1000009, 227)], false, false⟩,
  ⟨0, 24, 0, 0, [], false, false⟩,
  ⟨0, 12, 0, 0, [(0, 13)], false, false⟩,
  ⟨4, 0, 0, 0, [], false, false⟩,
  ⟨0, 0, 0, 0, [], false, false⟩,
  ⟨0, 0, 0, 0, [(0, 786433), (1000003, 1)], false, false⟩,
  ⟨0, 0, 0, 0, [], false, false⟩,
  ⟨0, 0, 0, 0, [], false, false⟩,
  ⟨0, 12, 0, 0, [(1000004, 5)], false, false⟩,
  ⟨0, 32, 0, 0, [], false, false⟩,
  ⟨0, 0, 0, 0, [(0, 9), (1000003, 1)], false, false⟩,
  ⟨0, 0, 0, 0, [], false, false⟩,
  ⟨0, 24, 0, 0, [], false, false⟩,
  ⟨0, 32, 0, 0, [], false, false⟩,
  ⟨0, 68, 0, 0, [(1000022, 69)], false, false⟩,
  ⟨0, 0, 536871424, 0, [(0, 775), (1000006, 1799), (1000010, 1799)], false, false⟩,
  ⟨0, 0, 0, 0, [], false, false⟩,
  ⟨4, 0, 0, 0, [], false, false⟩,
  ⟨0, 0, 0, 0, [], false, false⟩,
  ⟨0, 0, 0, 0, [], false, false⟩,
  ⟨0, 32, 0, 0, [], false, false⟩,
  ⟨0, 12, 0, 0, [(1000022, 13)], false, false⟩,
  ⟨0, 0, 16, 0, [], false, false⟩,
  ⟨0, 0, 0, 0, [], false, false⟩,
  ⟨2, 0, 0, 0, [(1000003, 2)], false, false⟩,
  ⟨0, 0, 0, 0, [], false, false⟩,
  ⟨0, 0, 0, 0, [], false, false⟩,
  ⟨2, 0, 0, 0, [], false, false⟩,
  ⟨0, 0, 0, 0, [], false, false⟩,
  ⟨0, 0, 0, 0, [(1000010, 263), (1000014, 772), (1000016, 772), (1000019, 1792), (1000021, 768)], false, false⟩,
  ⟨0, 0, 0, 0, [], false, false⟩,
  ⟨0, 0, 0, 0, [(1, 897), (3, 4993), (5, 50049), (7, 115585), (9, 47890485652059026823698344598447161988085597568237568), (1000011, 897)], false, false⟩,
  ⟨0, 0, 0, 0, [], false, false⟩,
  ⟨0, 0, 134217744, 0, [], false, false⟩,
  ⟨0, 32, 0, 0, [], false, false⟩,
  ⟨4, 0, 0, 0, [(1000005, 22)], false, false⟩,
  ⟨0, 0, 0, 0, [], false, false⟩,
  ⟨0, 0, 0, 0, [], false, false⟩,
  ⟨0, 0, 0, 0, [], false, false⟩,
  ⟨0, 12, 0, 0, [(0, 13)], false, false⟩,
  ⟨0, 12, 0, 0, [], false, false⟩,
  ⟨0, 0, 0, 0, [], false, false⟩,
  ⟨0, 0, 0, 0, [], false, false⟩,
  ⟨4, 0, 0, 0, [], false, false⟩,
  ⟨0, 0, 0, 0, [], false, false⟩,
  ⟨4, 0, 0, 0, [], false, false⟩,
  ⟨4, 0, 0, 0, [], false, false⟩,
  ⟨4, 0, 0, 0, [], false, false⟩,
  ⟨0, 0, 0, 0, [(1, 114689)], false, false⟩,
  ⟨0, 0, 0, 0, [], false, false⟩,
  ⟨0, 0, 0, 0, [], false, false⟩,
  ⟨0, 0, 0, 0, [], false, false⟩,
  ⟨0, 0, 0, 0, [], false, false⟩,
  ⟨0, 0, 0, 0, [(0, 450)], false, false⟩,
  ⟨0, 32, 0, 0, [(0, 450)], false, false⟩,
  ⟨2, 0, 0, 0, [], false, false⟩,
  ⟨0, 32, 0, 0, [(0, 450)], false, false⟩,
  ⟨2, 0, 0, 0, [(1000002, 2), (1000003, 6), (1000011, 30), (1000012, 6), (1000014, 2)], false, false⟩,
  ⟨0, 32, 0, 0, [(0, 450)], false, false⟩,
  ⟨2, 0, 0, 0, [(1000002, 2), (1000005, 6), (1000006, 2), (1000008, 2), (1000010, 2)], false, false⟩,
  ⟨0, 0, 0, 0, [], false, false⟩,
  ⟨0, 0, 0, 0, [], false, false⟩,
  ⟨0, 0, 0, 0, [(0, 35)], false, false⟩,
  ⟨0, 0, 0, 0, [], false, false⟩,
  ⟨0, 0, 0, 0, [], false, false⟩,
  ⟨0, 0, 0, 0, [(0, 7)], false, false⟩,
  ⟨0, 0, 0, 0, [], false, false⟩,
  ⟨0, 0, 0, 0, [], false, false⟩,
  ⟨0, 0, 0, 0, [(0, 49)], false, false⟩,
  ⟨0, 0, 0, 0, [(0, 99), (1000003, 3)], false, false⟩,
  ⟨0, 0, 0, 0, [], false, false⟩,
  ⟨0, 12, 0, 0, [(0, 13), (1000006, 29)], false, false⟩,
  ⟨48, 64, 0, 0, [], false, false⟩,
  ⟨0, 0, 0, 0, [(0, 25)], false, false⟩,
  ⟨0, 0, 0, 0, [(0, 25)], false, false⟩,
  ⟨0, 0, 0, 0, [(0, 25)], false, false⟩,
  ⟨0, 0, 0, 0, [(0, 9)], false, false⟩,
  ⟨0, 0, 0, 0, [(0, 9)], false, false⟩,
  ⟨2, 0, 0, 0, [(0, 34), (1000004, 10)], false, false⟩,
  ⟨0, 192, 0, 0, [(0, 35), (1000009, 227)], false, false⟩,
  ⟨0, 36, 0, 0, [(0, 453)], false, false⟩,
  ⟨0, 0, 0, 0, [], false, false⟩,
  ⟨0, 0, 0, 0, [], false, false⟩,
  ⟨0, 4, 0, 0, [(1000003, 5)], false, false⟩,
  ⟨0, 0, 0, 0, [], false, false⟩,
  ⟨0, 0, 0, 0, [], false, false⟩,
  ⟨0, 4, 0, 0, [(1000003, 5)], false, false⟩,
  ⟨0, 0, 0, 0, [], false, false⟩,
  ⟨0, 0, 0, 0, [(0, 3145729), (1000003, 1)], false, false⟩,
  ⟨0, 0, 0, 0, [], false, false⟩,
  ⟨0, 0, 36028797019095088, 0, [(0, 99), (1000011, 97)], false, false⟩,
  ⟨0, 0, 0, 0, [(0, 9), (1000003, 1)], false, false⟩,
  ⟨0, 0, 0, 0, [], false, false⟩,
  ⟨0, 0, 0, 0, [(3, 4436777100798802905238461234946), (1000021, 775), (1000025, 775), (1000032, 1799), (1000046, 4436777100798802905238461300482)], false, false⟩,
  ⟨0, 0, 0, 0, [], false, false⟩,
  ⟨0, 0, 0, 0, [], false, false⟩,
  ⟨0, 0, 0, 0, [], false, false⟩,
  ⟨0, 0, 0, 0, [], false, false⟩,
  ⟨0, 0, 0, 0, [], false, false⟩,
  ⟨0, 0, 0, 0, [], false, false⟩,
  ⟨0, 0, 0, 0, [], false, false⟩,
  ⟨0, 0, 0, 0, [], false, false⟩,
  ⟨0, 0, 0, 0, [], false, false⟩,
  ⟨0, 0, 0, 0, [], false, false⟩,
  ⟨0, 8, 0, 0, [], false, false⟩,
  ⟨0, 148, 549755813888, 0, [(1, 21), (1000025, 5), (1000033, 133)], false, false⟩,
  ⟨4, 0, 0, 0, [], false, false⟩,
  ⟨0, 0, 0, 0, [], false, false⟩,
  ⟨4, 0, 0, 0, [], false, false⟩,
  ⟨0, 0, 0, 0, [], false, false⟩,
  ⟨4, 0, 0, 0, [], false, false⟩,
  ⟨0, 0, 0, 0, [], false, false⟩,
  ⟨0, 32, 0, 0, [(0, 450)], false, false⟩,
  ⟨4, 0, 0, 0, [], false, false⟩,
  ⟨0, 0, 0, 0, [], false, false⟩,
  ⟨0, 0, 0, 0, [], false, false⟩,
  ⟨2, 0, 0, 0, [(1000002, 2), (1000011, 2), (1000014, 2)], false, false⟩,
  ⟨0, 0, 0, 0, [(0, 35)], false, false⟩,
  ⟨0, 0, 1, 0, [], false, false⟩,
  ⟨0, 12, 0, 0, [(0, 13), (1000006, 29)], false, false⟩,
  ⟨0, 0, 0, 0, [(0, 25)], false, false⟩,
  ⟨2, 8, 0, 0, [], false, false⟩,
  ⟨0, 0, 0, 0, [(0, 9)], false, false⟩,
  ⟨0, 0, 0, 0, [(0, 9)], false, false⟩,
  ⟨0, 0, 0, 0, [(0, 9)], false, false⟩,
  ⟨8, 0, 0, 0, [], false, false⟩,
  ⟨8, 0, 16, 0, [], false, false⟩,
  ⟨0, 0, 0, 0, [], false, false⟩,
  ⟨0, 0, 0, 0, [], false, false⟩,
  ⟨0, 0, 0, 0, [], false, false⟩,
  ⟨0, 0, 0, 0, [], false, false⟩,
  ⟨0, 0, 0, 0, [(0, 57), (1000005, 25), (1000014, 57)], false, false⟩,
  ⟨0, 0, 0, 0, [], false, false⟩,
  ⟨0, 0, 0, 0, [], false, false⟩,
  ⟨0, 0, 0, 0, [], false, false⟩,
  ⟨0, 0, 0, 0, [], false, false⟩,
  ⟨0, 4, 0, 0, [], false, false⟩,
  ⟨0, 12, 4202496, 0, [(0, 13)], false, false⟩,
  ⟨0, 12, 0, 0, [(0, 13)], false, false⟩,
  ⟨2, 4, 0, 0, [], false, false⟩,
  ⟨2, 0, 0, 0, [(1000007, 2)], false, false⟩,
  ⟨2, 0, 0, 0, [(0, 18), (1000007, 2)], false, false⟩,
  ⟨4, 0, 0, 0, [(1000005, 22)], false, false⟩,
  ⟨0, 16, 0, 0, [(1000003, 1)], false, false⟩,
  ⟨4, 0, 33554432, 0, [(1000005, 22)], false, false⟩,
  ⟨0, 0, 8, 0, [], false, false⟩,
  ⟨0, 0, 0, 0, [], false, false⟩,
  ⟨0, 0, 0, 0, [], false, false⟩,
  ⟨4, 0, 0, 0, [(1000005, 22)], false, false⟩,
  ⟨0, 4, 536870912, 0, [(0, 37)], false, false⟩,
  ⟨0, 76, 33554432, 0, [(1, 13), (1000025, 5), (1000033, 69)], false, false⟩,
  ⟨0, 0, 0, 0, [], false, false⟩,
  ⟨2, 0, 0, 0, [(1000002, 10), (1000004, 2)], false, false⟩,
  ⟨2, 0, 0, 0, [], false, false⟩,
  ⟨2, 8, 0, 0, [(1000012, 18)], false, false⟩,
  ⟨0, 8, 0, 0, [], false, false⟩,
  ⟨0, 8, 524304, 0, [], false, false⟩,
  ⟨0, 0, 0, 0, [(1000004, 1), (1000008, 97)], false, false⟩,
  ⟨0, 24, 0, 0, [], false, false⟩,
  ⟨0, 0, 0, 0, [(1000002, 3)], false, false⟩,
  ⟨0, 12, 1048576, 0, [(0, 13), (1000011, 13), (1000013, 13)], false, false⟩,
  ⟨0, 12, 134479872, 0, [(0, 13)], false, false⟩,
  ⟨0, 0, 0, 0, [], false, false⟩,
  ⟨0, 0, 0, 0, [], false, false⟩,
  ⟨0, 0, 0, 0, [], false, false⟩,
  ⟨0, 0, 0, 0, [(0, 19), (1000020, 4113), (1000025, 4113)], false, false⟩,
  ⟨0, 0, 39614081257132168796771975168, 1, [(0, 130075), (2, 146459), (1000003, 3103), (1000007, 15391), (1000025, 15385), (1000028, 15377)], false, false⟩,
  ⟨0, 0, 0, 0, [], false, false⟩,
  ⟨0, 0, 0, 0, [(1000004, 5), (1000007, 5), (1000010, 5)], false, false⟩,
  ⟨0, 0, 0, 0, [], false, false⟩,
  ⟨0, 0, 0, 0, [], false, false⟩,
  ⟨0, 0, 0, 0, [], false, false⟩,
  ⟨0, 0, 0, 0, [], false, false⟩,
  ⟨0, 0, 0, 0, [], false, false⟩,
  ⟨0, 0, 0, 0, [], false, false⟩,
  ⟨0, 0, 0, 0, [], false, false⟩,
  ⟨0, 0, 0, 0, [], false, false⟩,
  ⟨0, 0, 0, 0, [], false, false⟩,
  ⟨0, 0, 0, 0, [], false, false⟩,
  ⟨0, 0, 0, 0, [], false, false⟩,
  ⟨0, 0, 0, 0, [], false, false⟩,
  ⟨0, 0, 0, 0, [], false, false⟩,
  ⟨0, 0, 0, 0, [], false, false⟩,
  ⟨0, 0, 0, 0, [], false, false⟩,
  ⟨0, 0, 0, 0, [], false, false⟩,
  ⟨0, 0, 0, 0, [], false, false⟩,
  ⟨0, 0, 0, 0, [], false, false⟩,
  ⟨0, 0, 0, 0, [], false, false⟩,
  ⟨0, 0, 0, 0, [], false, false⟩,
  ⟨0, 0, 0, 0, [], false, false⟩,
  ⟨0, 0, 0, 0, [], false, false⟩,
  ⟨0, 0, 0, 0, [], false, false⟩,
  ⟨0, 0, 0, 0, [], false, false⟩,
  ⟨0, 0, 0, 0, [], false, false⟩,
  ⟨0, 0, 0, 0, [], false, false⟩,
  ⟨0, 0, 0, 0, [], false, false⟩,
  ⟨0, 0, 0, 0, [], false, false⟩,
  ⟨0, 0, 0, 0, [], false, false⟩,
  ⟨0, 0, 0, 0, [], false, false⟩,
  ⟨0, 0, 0, 0, [], false, false⟩,
  ⟨0, 0, 0, 0, [], false, false⟩,
  ⟨0, 0, 0, 0, [], false, false⟩,
  ⟨0, 0, 0, 0, [], false, false⟩]
abbrev f_waferlaw05_ParsePats : Nat := 7
abbrev f_parsecore_Exp : Nat := 9
abbrev f_waferref05_Exp : Nat := 10
abbrev f_waferref04_SameExp : Nat := 11
abbrev f_waferlaw05_alive : Nat := 12
abbrev f_parsecore_Ty : Nat := 13
abbrev f_waferref05_Ty : Nat := 14
abbrev f_waferref04_SameTy : Nat := 15
abbrev f_parsecore_Pat : Nat := 16
abbrev f_waferref05_Pat : Nat := 17
abbrev f_waferref04_SamePat : Nat := 18
abbrev f_lex_Lex : Nat := 19
abbrev f_lex_Join : Nat := 20
abbrev f_parsecore_whole_api_Exp : Nat := 21
abbrev f_parsecore_Reader_Exp : Nat := 22
abbrev f_tree_RightExp : Nat := 23
abbrev f_waferref05_Read : Nat := 24
abbrev f_waferref05_Reader_Exp : Nat := 25
abbrev f_waferref04_RightExp : Nat := 27
abbrev f_waferref04_expsSame : Nat := 28
abbrev f_parsecore_whole_api_Ty : Nat := 29
abbrev f_parsecore_Reader_Ty : Nat := 30
abbrev f_tree_RightTy : Nat := 31
abbrev f_waferref05_Reader_Ty : Nat := 32
abbrev f_waferref04_RightTy : Nat := 33
abbrev f_waferref04_tysSame : Nat := 34
abbrev f_parsecore_whole_api_Pat : Nat := 35
abbrev f_parsecore_Reader_Pat : Nat := 36
abbrev f_tree_RightPat : Nat := 37
abbrev f_waferref05_Reader_Pat : Nat := 38
abbrev f_waferref04_RightPat : Nat := 39
abbrev f_waferref04_patsSame : Nat := 40
abbrev f_lex_skipped : Nat := 41
abbrev f_lex_one : Nat := 42
abbrev f_strings_Join : Nat := 43
abbrev f_parsecore_Read : Nat := 44
abbrev f_parsecore_guarded_api_Exp : Nat := 46
abbrev f_parsecore_Reader_exp : Nat := 47
abbrev f_tree_walker_exps : Nat := 49
abbrev f_tree_exp : Nat := 51
abbrev f_waferref03_Lex : Nat := 52
abbrev f_waferref05_Reader_exp : Nat := 53
abbrev f_waferref04_expsDepth : Nat := 55
abbrev f_waferref04_exp : Nat := 56
abbrev f_waferref04_texts : Nat := 57
abbrev f_waferref04_decsSame : Nat := 58
abbrev f_parsecore_guarded_api_Ty : Nat := 59
abbrev f_parsecore_Reader_ty : Nat := 60
abbrev f_tree_walker_tys : Nat := 61
abbrev f_tree_ty : Nat := 63
abbrev f_waferref05_Reader_pairTy : Nat := 64
abbrev f_waferref05_Reader_Take : Nat := 65
abbrev f_waferref04_tysDepth : Nat := 66
abbrev f_waferref04_ty : Nat := 67
abbrev f_parsecore_guarded_api_Pat : Nat := 68
abbrev f_parsecore_Reader_pat : Nat := 69
abbrev f_tree_walker_pats : Nat := 70
abbrev f_tree_pat : Nat := 72
abbrev f_waferref05_Reader_pat : Nat := 73
abbrev f_waferref04_patsDepth : Nat := 74
abbrev f_waferref04_pat : Nat := 75
abbrev f_lex_sorted : Nat := 76
abbrev f_strings_HasPrefix : Nat := 77
abbrev f_lex_remark : Nat := 78
abbrev f_lex_word : Nat := 79
abbrev f_lex_run : Nat := 80
abbrev f_lex_one_1 : Nat := 81
abbrev f_strconv_ParseInt : Nat := 82
abbrev f_lex_one_2 : Nat := 83
abbrev f_strings_ContainsRune : Nat := 84
abbrev f_parsecore_Reader_Take : Nat := 89
abbrev f_parsecore_Reader_Need : Nat := 90
abbrev f_parsecore_Reader_binary : Nat := 91
abbrev f_tree_caught : Nat := 92
abbrev f_tree_each_api_Exp : Nat := 93
abbrev f_tree_walker_decs : Nat := 97
abbrev f_tree_ask : Nat := 98
abbrev f_tree_parts : Nat := 99
abbrev f_tree_each_api_Dec : Nat := 100
abbrev f_tree_exp_1 : Nat := 101
abbrev f_tree_lowPath : Nat := 102
abbrev f_tree_highPath : Nat := 103
abbrev f_tree_each_api_Pat : Nat := 104
abbrev f_tree_dec : Nat := 105
abbrev f_tree_each_api_Ty : Nat := 106
abbrev f_waferref03_skip : Nat := 107
abbrev f_waferref03_next : Nat := 108
abbrev f_waferref05_Reader_Need : Nat := 109
abbrev f_waferref05_Reader_cmp : Nat := 110
abbrev f_waferref04_decsDepth : Nat := 112
abbrev f_waferref04_last : Nat := 114
abbrev f_waferref04_pats : Nat := 115
abbrev f_waferref04_exps : Nat := 116
abbrev f_waferref04_decs : Nat := 117
abbrev f_waferref04_tys : Nat := 118
abbrev f_waferref04_consSame : Nat := 119
abbrev f_waferref04_modsSame : Nat := 120
abbrev f_waferref04_sigsSame : Nat := 121
abbrev f_parsecore_Reader_pairty : Nat := 123
abbrev f_names_Tyvar : Nat := 126
abbrev f_tree_basic : Nat := 128
abbrev f_waferref05_Reader_atomTy : Nat := 129
abbrev f_waferref05_Reader_Is : Nat := 130
abbrev f_waferref02_Tyvar : Nat := 131
abbrev f_waferref04_con : Nat := 132
abbrev f_parsecore_Reader_of : Nat := 134
abbrev f_parsecore_Reader_apat : Nat := 135
abbrev f_parsecore_Reader_path : Nat := 136
abbrev f_parsecore_Reader_begins : Nat := 137
abbrev f_tree_walker_pats_1 : Nat := 138
abbrev f_tree_lowName : Nat := 140
abbrev f_waferref05_Reader_kind : Nat := 141
abbrev f_waferref05_Reader_atomPat : Nat := 142
abbrev f_waferref05_Reader_Path : Nat := 143
abbrev f_waferref05_Reader_beginsPat : Nat := 144
abbrev f_waferref04_name : Nat := 146
abbrev f_lex_word_1 : Nat := 148
abbrev f_names_Reserved : Nat := 149
abbrev f_parsecore_Reader_Is : Nat := 155
abbrev f_parsecore_guarded_bool : Nat := 156
abbrev f_parsecore_Reader_Need_1 : Nat := 157
abbrev f_parsecore_Reader_app : Nat := 160
abbrev f_tree_walker_cons : Nat := 166
abbrev f_tree_walker_mods : Nat := 167
abbrev f_tree_walker_sigs : Nat := 168
abbrev f_names_Path : Nat := 169
abbrev f_names_Lower : Nat := 170
abbrev f_names_Upper : Nat := 171
abbrev f_tree_count : Nat := 172
abbrev f_tree_highName : Nat := 173
abbrev f_tree_each_string : Nat := 174
abbrev f_tree_each_api_Con : Nat := 175
abbrev f_tree_con : Nat := 176
abbrev f_tree_each_api_Mod : Nat := 177
abbrev f_tree_mod : Nat := 178
abbrev f_tree_each_api_Sig : Nat := 179
abbrev f_tree_sig : Nat := 180
abbrev f_waferref03_blank : Nat := 181
abbrev f_waferref03_two : Nat := 182
abbrev f_waferref03_remark : Nat := 183
abbrev f_waferref03_low : Nat := 184
abbrev f_waferref03_high : Nat := 185
abbrev f_waferref03_run : Nat := 186
abbrev f_waferref02_Reserved : Nat := 187
abbrev f_waferref03_digit : Nat := 188
abbrev f_waferref03_number : Nat := 189
abbrev f_waferref03_mark : Nat := 190
abbrev f_waferref05_Reader_sum : Nat := 192
abbrev f_waferref04_consDepth : Nat := 194
abbrev f_waferref04_modsDepth : Nat := 195
abbrev f_waferref04_sigsDepth : Nat := 196
abbrev f_waferref02_Path : Nat := 198
abbrev f_waferref04_dec : Nat := 199
abbrev f_waferref04_specsSame : Nat := 200
abbrev f_parsecore_Reader_aty : Nat := 201
abbrev f_names_low : Nat := 202
abbrev f_names_digit : Nat := 203
abbrev f_waferref02_low : Nat := 205
abbrev f_waferref02_digit : Nat := 206
abbrev f_names_Right : Nat := 209
abbrev f_waferref05_Reader_path : Nat := 211
abbrev f_waferref02_Right : Nat := 212
abbrev f_waferref02_Upper : Nat := 213
abbrev f_strings_IndexByte : Nat := 219
abbrev f_parsecore_Reader_atom : Nat := 226
abbrev f_tree_each_api_Spec : Nat := 233
abbrev f_names_high : Nat := 236
abbrev f_tree_spec : Nat := 237
abbrev f_waferref02_Has : Nat := 238
abbrev f_waferref05_Reader_prod : Nat := 240
abbrev f_waferref04_specsDepth : Nat := 241
abbrev f_waferref04_cons : Nat := 243
abbrev f_waferref04_mods : Nat := 244
abbrev f_waferref04_sigs : Nat := 245
abbrev f_parsecore_Reader_taken : Nat := 246
abbrev f_parsecore_Reader_Path : Nat := 247
abbrev f_waferref05_Reader_name : Nat := 248
abbrev f_waferref05_Reader_dotted : Nat := 249
abbrev f_waferref02_high : Nat := 250
abbrev f_parsecore_Reader_Dec : Nat := 257
abbrev f_parsecore_Reader_branches : Nat := 258
abbrev f_waferref05_Reader_app : Nat := 259
abbrev f_waferref04_mod : Nat := 261
abbrev f_waferref04_sig : Nat := 262
abbrev f_parsecore_guarded_string : Nat := 263
abbrev f_parsecore_Reader_taken_1 : Nat := 264
abbrev f_parsecore_guarded_strings : Nat := 265
abbrev f_parsecore_guarded_api_Dec : Nat := 269
abbrev f_parsecore_Reader_dec : Nat := 270
abbrev f_waferref05_Reader_atom : Nat := 271
abbrev f_waferref05_Reader_begins : Nat := 272
abbrev f_waferref04_spec : Nat := 275
abbrev f_waferref05_Reader_Dec : Nat := 281
abbrev f_waferref05_Reader_cases : Nat := 282
abbrev f_waferref05_Reader_either : Nat := 283
abbrev y_int64 : Nat := 2
abbrev y_int : Nat := 3
abbrev y_string : Nat := 9
abbrev y_s_string : Nat := 22
abbrev y_s_api_Pat : Nat := 23
abbrev y_s_api_Ty : Nat := 26
abbrev y_api_Pat : Nat := 42
abbrev y_lex_Token : Nat := 74
abbrev y_parsecore_failure : Nat := 127
abbrev y_tree_wrong : Nat := 180
abbrev y_p_strconv_NumError : Nat := 222
noncomputable def rs0 : TypeId → List KSh := rowSh Pg
def extL : List (Nat × (List AV → Option AV)) := [(f_strings_IndexByte, xIndexByte),
  (f_strconv_ParseInt, xParseInt y_p_strconv_NumError),
  (f_strings_Join, xJoin)]
def gx : PExt := fun f => extL.lookup f
def extIds : Nat := (extL.map fun p => 2 ^ p.1).foldl (· ||| ·) 0
def normIds : Nat := 0 ||| 2 ^ f_lex_Lex ||| 2 ^ f_waferref03_Lex ||| 2 ^ f_parsecore_Reader_Path ||| 2 ^ f_parsecore_Reader_path ||| 2 ^ f_parsecore_Reader_Ty ||| 2 ^ f_parsecore_Reader_Pat ||| 2 ^ f_parsecore_Reader_Exp ||| 2 ^ f_parsecore_Reader_Dec ||| 2 ^ f_parsecore_Reader_ty ||| 2 ^ f_parsecore_Reader_pairty ||| 2 ^ f_parsecore_Reader_aty ||| 2 ^ f_parsecore_Reader_pat ||| 2 ^ f_parsecore_Reader_apat ||| 2 ^ f_parsecore_Reader_exp ||| 2 ^ f_parsecore_Reader_branches ||| 2 ^ f_parsecore_Reader_dec ||| 2 ^ f_parsecore_Reader_binary ||| 2 ^ f_parsecore_Reader_app ||| 2 ^ f_parsecore_Reader_atom ||| 2 ^ f_waferref05_Reader_Path ||| 2 ^ f_waferref05_Reader_path ||| 2 ^ f_waferref05_Reader_either ||| 2 ^ f_waferref05_Reader_Ty ||| 2 ^ f_waferref05_Reader_pairTy ||| 2 ^ f_waferref05_Reader_atomTy ||| 2 ^ f_waferref05_Reader_Pat ||| 2 ^ f_waferref05_Reader_pat ||| 2 ^ f_waferref05_Reader_atomPat ||| 2 ^ f_waferref05_Reader_Exp ||| 2 ^ f_waferref05_Reader_exp ||| 2 ^ f_waferref05_Reader_cases ||| 2 ^ f_waferref05_Reader_Dec ||| 2 ^ f_waferref05_Reader_cmp ||| 2 ^ f_waferref05_Reader_sum ||| 2 ^ f_waferref05_Reader_prod ||| 2 ^ f_waferref05_Reader_app ||| 2 ^ f_waferref05_Reader_atom ||| 2 ^ f_parsecore_Ty ||| 2 ^ f_parsecore_Pat ||| 2 ^ f_parsecore_Exp ||| 2 ^ f_waferref05_Ty ||| 2 ^ f_waferref05_Pat ||| 2 ^ f_waferref05_Exp
def cfg0 : FuncId → FCfg := fun f => { cfgL.getD f default with ext := extIds.testBit f, norm := normIds.testBit f }
theorem hx0 : ∀ f, (cfg0 f).ext = false → gx.ext f = none := by
  have key : (extL.all fun p => extIds.testBit p.1) = true := by kernel_rfl
  intro f h
  have h1 : extIds.testBit f = false := h
  have h2 : gx f = none := by
    cases hg : gx f with
    | none => rfl
    | some e =>
      have : (f, e) ∈ extL := List.lookup_eq_some_iff.1 hg |>.elim fun l ⟨r, h, _⟩ => by rw [h]; simp
      have := List.all_eq_true.1 key _ this
      simp only at this
      rw [h1] at this; cases this
  unfold PExt.ext; rw [h2]; rfl
noncomputable abbrev evp : CallF := ev Pg cfg0 gx.ext
noncomputable def shL0 : List (Nat × KM) := [(f_tree_walker_tys, .con (some (.arg 0)) none true),
  (f_tree_walker_pats, .con (some (.arg 0)) none true),
  (f_tree_walker_exps, .con (some (.arg 0)) none true),
  (f_tree_walker_cons, .con (some (.arg 0)) none true),
  (f_tree_walker_decs, .con (some (.arg 0)) none true),
  (f_tree_walker_mods, .con (some (.arg 0)) none true),
  (f_tree_walker_sigs, .con (some (.arg 0)) none true),
  (f_tree_each_api_Spec, .con (some (.tup [])) none true)]
noncomputable def sh0 : FuncId → KM := fun f => match shL0.lookup f with
  | some k => k
  | none => .inl false
@[irreducible] noncomputable def kc0 : KC := kcalls Pg cfg0 rs0 sh0 12
@[irreducible] noncomputable def kt0 (f : FuncId) (args : List AV) (H : Heap) : KT := ktree Pg cfg0 rs0 sh0 12 false f args .none H
theorem hkc0 {QD : List (St → Prop)} {QR : CRes → Prop} : KCS Pg cfg0 evp QD QR kc0 := by
  delta kc0
  exact kcalls_sound (ev_byCode hx0) 12 _
theorem kt0_ev {f : FuncId} {args : List AV} {H : Heap} {r : CRes} (h : (kt0 f args H).wp Pg cfg0 evp [] (fun x => x = r)) : evp f args .none H = some r := by
  delta kt0 at h
  obtain ⟨x, h1, rfl⟩ := ktree_sound (ev_byCode hx0) h
  exact h1
theorem loop0 {σ : Type} {t : KT} {QD : List (St → Prop)} {QR : CRes → Prop} (S : σ → St) (Inv : σ → Prop) (m : σ → Nat) (a0 : σ) (h0 : t.atLoop = some (S a0)) (hi : Inv a0)
    (hr : ∀ a, Inv a → (t.round Pg cfg0 rs0 kc0 (S a)).wp Pg cfg0 evp ((fun s => ∃ a', (Inv a' ∧ m a' < m a) ∧ s = S a') :: QD) QR) : t.wp Pg cfg0 evp QD QR :=
  kt_loop (rs := rs0) (kc := kc0) S Inv m a0 (fun _ => hkc0) h0 hi hr
noncomputable def shL2 : List (Nat × KM) := [(f_names_low, .con (some (resSh Pg f_names_low)) none false),
  (f_names_high, .con (some (resSh Pg f_names_high)) none false),
  (f_names_digit, .con (some (resSh Pg f_names_digit)) none false),
  (f_names_Right, .con (some (resSh Pg f_names_Right)) none false),
  (f_names_Tyvar, .con (some (resSh Pg f_names_Tyvar)) none false),
  (f_names_Path, .con (some (resSh Pg f_names_Path)) none false),
  (f_names_Reserved, .con (some (resSh Pg f_names_Reserved)) none false),
  (f_names_Lower, .con (some (resSh Pg f_names_Lower)) none false),
  (f_names_Upper, .con (some (resSh Pg f_names_Upper)) none false),
  (f_tree_lowName, .con (some (resSh Pg f_tree_lowName)) (some (y_tree_wrong, .int .i64)) false),
  (f_tree_highName, .con (some (resSh Pg f_tree_highName)) (some (y_tree_wrong, .int .i64)) false),
  (f_tree_lowPath, .con (some (resSh Pg f_tree_lowPath)) (some (y_tree_wrong, .int .i64)) false),
  (f_tree_highPath, .con (some (resSh Pg f_tree_highPath)) (some (y_tree_wrong, .int .i64)) false),
  (f_tree_ask, .con (some (resSh Pg f_tree_ask)) (some (y_tree_wrong, .int .i64)) false),
  (f_tree_count, .con (some (resSh Pg f_tree_count)) (some (y_tree_wrong, .int .i64)) false),
  (f_tree_basic, .con (some (resSh Pg f_tree_basic)) none false),
  (f_tree_parts, .con (some (resSh Pg f_tree_parts)) none false),
  (f_tree_each_string, .con (some (resSh Pg f_tree_each_string)) (some (y_tree_wrong, .int .i64)) false),
  (f_tree_each_api_Ty, .con (some (resSh Pg f_tree_each_api_Ty)) (some (y_tree_wrong, .int .i64)) false),
  (f_tree_each_api_Pat, .con (some (resSh Pg f_tree_each_api_Pat)) (some (y_tree_wrong, .int .i64)) false),
  (f_tree_each_api_Exp, .con (some (resSh Pg f_tree_each_api_Exp)) (some (y_tree_wrong, .int .i64)) false),
  (f_tree_each_api_Con, .con (some (resSh Pg f_tree_each_api_Con)) (some (y_tree_wrong, .int .i64)) false),
  (f_tree_each_api_Dec, .con (some (resSh Pg f_tree_each_api_Dec)) (some (y_tree_wrong, .int .i64)) false),
  (f_tree_each_api_Mod, .con (some (resSh Pg f_tree_each_api_Mod)) (some (y_tree_wrong, .int .i64)) false),
  (f_tree_each_api_Sig, .con (some (resSh Pg f_tree_each_api_Sig)) (some (y_tree_wrong, .int .i64)) false),
  (f_tree_each_api_Spec, .con (some (resSh Pg f_tree_each_api_Spec)) (some (y_tree_wrong, .int .i64)) false),
  (f_tree_ty, .con (some (resSh Pg f_tree_ty)) (some (y_tree_wrong, .int .i64)) false),
  (f_tree_pat, .con (some (resSh Pg f_tree_pat)) (some (y_tree_wrong, .int .i64)) false),
  (f_tree_exp, .con (some (resSh Pg f_tree_exp)) (some (y_tree_wrong, .int .i64)) false),
  (f_tree_con, .con (some (resSh Pg f_tree_con)) (some (y_tree_wrong, .int .i64)) false),
  (f_tree_dec, .con (some (resSh Pg f_tree_dec)) (some (y_tree_wrong, .int .i64)) false),
  (f_tree_mod, .con (some (resSh Pg f_tree_mod)) (some (y_tree_wrong, .int .i64)) false),
  (f_tree_sig, .con (some (resSh Pg f_tree_sig)) (some (y_tree_wrong, .int .i64)) false),
  (f_tree_spec, .con (some (resSh Pg f_tree_spec)) (some (y_tree_wrong, .int .i64)) false),
  (f_tree_exp_1, .con (some (resSh Pg f_tree_exp_1)) (some (y_tree_wrong, .int .i64)) false)]
noncomputable def sh2 : FuncId → KM := fun f => match shL2.lookup f with
  | some k => k
  | none => .inl false
@[irreducible] noncomputable def kc2 : KC := kcalls Pg cfg0 rs0 sh2 12
@[irreducible] noncomputable def kt2 (f : FuncId) (args : List AV) (H : Heap) : KT := ktree Pg cfg0 rs0 sh2 12 false f args .none H
theorem hkc2 {QD : List (St → Prop)} {QR : CRes → Prop} : KCS Pg cfg0 evp QD QR kc2 := by
  delta kc2
  exact kcalls_sound (ev_byCode hx0) 12 _
theorem loop2 {σ : Type} {t : KT} {QD : List (St → Prop)} {QR : CRes → Prop} (S : σ → St) (Inv : σ → Prop) (m : σ → Nat) (a0 : σ) (h0 : t.atLoop = some (S a0)) (hi : Inv a0)
    (hr : ∀ a, Inv a → (t.round Pg cfg0 rs0 kc2 (S a)).wp Pg cfg0 evp ((fun s => ∃ a', (Inv a' ∧ m a' < m a) ∧ s = S a') :: QD) QR) : t.wp Pg cfg0 evp QD QR :=
  kt_loop (rs := rs0) (kc := kc2) S Inv m a0 (fun _ => hkc2) h0 hi hr
noncomputable def shL3 : List (Nat × KM) := [(f_tree_walker_decs, .con (some (.arg 0)) none true),
  (f_tree_dec, .con (some (resSh Pg f_tree_dec)) (some (y_tree_wrong, .int .i64)) false),
  (f_tree_caught, .inl true),
  (f_lex_sorted, .con (some (resSh Pg f_lex_sorted)) none false),
  (f_lex_run, .con (some (resSh Pg f_lex_run)) none false),
  (f_lex_skipped, .con (some (resSh Pg f_lex_skipped)) none false),
  (f_lex_remark, .con (some (resSh Pg f_lex_remark)) none false),
  (f_lex_word, .con (some (resSh Pg f_lex_word)) none false),
  (f_lex_one, .con (some (resSh Pg f_lex_one)) none false),
  (f_lex_Lex, .con (some (resSh Pg f_lex_Lex)) none false),
  (f_lex_Join, .con (some (resSh Pg f_lex_Join)) none false),
  (f_names_Reserved, .con (some (resSh Pg f_names_Reserved)) none false),
  (f_strings_HasPrefix, .con (some (resSh Pg f_strings_HasPrefix)) none false),
  (f_strings_ContainsRune, .con (some (resSh Pg f_strings_ContainsRune)) none false),
  (f_strings_Join, .con (some (resSh Pg f_strings_Join)) none false),
  (f_strconv_ParseInt, .con (some (.tup [.int .i64, .alt (.const (.val .nilIface)) (.const (.iface y_p_strconv_NumError .any))])) none false),
  (f_waferref03_Lex, .con (some (resSh Pg f_waferref03_Lex)) none false),
  (f_waferref03_skip, .con (some (resSh Pg f_waferref03_skip)) none false),
  (f_waferref03_next, .con (some (resSh Pg f_waferref03_next)) none false),
  (f_waferref03_blank, .con (some (resSh Pg f_waferref03_blank)) none false),
  (f_waferref03_two, .con (some (resSh Pg f_waferref03_two)) none false),
  (f_waferref03_remark, .con (some (resSh Pg f_waferref03_remark)) none false),
  (f_waferref03_low, .con (some (resSh Pg f_waferref03_low)) none false),
  (f_waferref03_high, .con (some (resSh Pg f_waferref03_high)) none false),
  (f_waferref03_digit, .con (some (resSh Pg f_waferref03_digit)) none false),
  (f_waferref03_run, .con (some (resSh Pg f_waferref03_run)) none false),
  (f_waferref03_number, .con (some (resSh Pg f_waferref03_number)) none false),
  (f_waferref03_mark, .con (some (resSh Pg f_waferref03_mark)) none false),
  (f_waferref02_Reserved, .con (some (resSh Pg f_waferref02_Reserved)) none false),
  (f_waferref02_Has, .con (some (resSh Pg f_waferref02_Has)) none false)]
noncomputable def sh3 : FuncId → KM := fun f => match shL3.lookup f with
  | some k => k
  | none => .inl false
@[irreducible] noncomputable def kc3 : KC := kcalls Pg cfg0 rs0 sh3 12
@[irreducible] noncomputable def kt3 (f : FuncId) (args : List AV) (H : Heap) : KT := ktree Pg cfg0 rs0 sh3 12 false f args .none H
theorem hkc3 {QD : List (St → Prop)} {QR : CRes → Prop} : KCS Pg cfg0 evp QD QR kc3 := by
  delta kc3
  exact kcalls_sound (ev_byCode hx0) 12 _
theorem kt3_ev {f : FuncId} {args : List AV} {H : Heap} {r : CRes} (h : (kt3 f args H).wp Pg cfg0 evp [] (fun x => x = r)) : evp f args .none H = some r := by
  delta kt3 at h
  obtain ⟨x, h1, rfl⟩ := ktree_sound (ev_byCode hx0) h
  exact h1
theorem loop3 {σ : Type} {t : KT} {QD : List (St → Prop)} {QR : CRes → Prop} (S : σ → St) (Inv : σ → Prop) (m : σ → Nat) (a0 : σ) (h0 : t.atLoop = some (S a0)) (hi : Inv a0)
    (hr : ∀ a, Inv a → (t.round Pg cfg0 rs0 kc3 (S a)).wp Pg cfg0 evp ((fun s => ∃ a', (Inv a' ∧ m a' < m a) ∧ s = S a') :: QD) QR) : t.wp Pg cfg0 evp QD QR :=
  kt_loop (rs := rs0) (kc := kc3) S Inv m a0 (fun _ => hkc3) h0 hi hr
end Go.Proofs
end

section
/- LEX: trees, printed by kt.py out of x1.txt -/
open Go Go.Eng
namespace Go.Proofs
set_option linter.unusedVariables false
set_option maxRecDepth 100000
@[irreducible] noncomputable def Y_run (s : ByteArray) (a : Nat) (g : FuncId) : KT := kt3 f_lex_run [vS s, vI a, .func (.func g) [] []] []
@[irreducible] noncomputable def Y_remark (s : ByteArray) (a : Nat) : KT := kt3 f_lex_remark [vS s, vI a] []
@[irreducible] noncomputable def Y_skipped (s : ByteArray) (a : Nat) : KT := kt3 f_lex_skipped [vS s, vI a] []
@[irreducible] noncomputable def Y_ones2 (s : ByteArray) (a : Nat) (y : UInt8) (b b1 b2 b3 b4 b5 : Bool) : KT := ((((((((kt3 f_lex_one [vS s, vI a] []).Y y).T.B b).B b1).B b2).B b3).B b4).B b5).T.K ⟨tm2 113 [(0, (vS (s))), (1, (vI ((↑a : Int)))), (4, (.lp 4 0 0))], lm2 113 [(4, (0, [(vI (0)), (vS ((⟨#[]⟩ : ByteArray))), (vI (0)), (vI (0))]))], ⟨[], [], .none, 0⟩⟩
@[irreducible] noncomputable def Y_Lex (s : ByteArray) : KT := (kt3 f_lex_Lex [vS s] []).F
theorem X_HasPrefix_eq (s : ByteArray) (p : ByteArray) : kt3 f_strings_HasPrefix [vS s, vS p] [] =
 (.branch (decide ((↑s.size : Int) ≥ (↑p.size : Int)))
 (.need (decide ((0 : Int) ≤ 0 ∧ 0 ≤ (↑p.size : Int) ∧ (↑p.size : Int) ≤ (↑s.size : Int)))
 (.need true
 (.need true
 (.ret ⟨(.ret (vB ((s.extract (Int.toNat 0) (↑p.size : Int).toNat).toList == p.toList))), .none, []⟩))))
 (.need true
 (.need true
 (.ret ⟨(.ret (vB false)), .none, []⟩)))) := by kernel_rfl
theorem X_runR1_eq (s : ByteArray) (a : Nat) (i : Nat) : KT.round Pg cfg0 rs0 kc3 (Y_run s a f_lex_word_1) { tmps := tm2 22 [(0, vS s), (1, vI (↑i : Int)), (2, AV.func (Fn.func f_lex_word_1) [] [])], lh := lm2 22 [], g := { H := [], defers := [], rm := RM.none, base := 0 } } =
 (.branch (decide ((↑i : Int) < (↑s.size : Int)))
 (.exY fun y =>
 (.byte (s) ((↑i : Int)) (y)
 (.exB fun b =>
 (.exB fun b1 =>
 (.exB fun b2 =>
 (.exB fun b3 =>
 (.exB fun b4 =>
 (.exB fun b5 =>
 (.call f_lex_sorted [(.val (.int .u8 ((↑y.toNat : Int))))] .none [] ⟨(.ret (.agg [(vB (b)), (vB (b1)), (vB (b2)), (vB (b3)), (vB (b4)), (vB (b5))])), .none, []⟩
 (.need true
 (.branch (b3)
 (.done ⟨tm2 22 [(0, (vS (s))), (1, (vI (IntKind.i64.wrap ((↑i : Int) + 1)))), (2, (.func (.func f_lex_word_1) [] []))], lm2 22 [], ⟨[], [], .none, 0⟩⟩)
 (.out (.need true
 (.ret ⟨(.ret (vI ((↑i : Int)))), .none, []⟩))))))))))))))
 (.out (.need true
 (.ret ⟨(.ret (vI ((↑i : Int)))), .none, []⟩)))) := by kernel_rfl
theorem X_runR2_eq (s : ByteArray) (a : Nat) (i : Nat) : KT.round Pg cfg0 rs0 kc3 (Y_run s a f_lex_one_1) { tmps := tm2 22 [(0, vS s), (1, vI (↑i : Int)), (2, AV.func (Fn.func f_lex_one_1) [] [])], lh := lm2 22 [], g := { H := [], defers := [], rm := RM.none, base := 0 } } =
 (.branch (decide ((↑i : Int) < (↑s.size : Int)))
 (.exY fun y =>
 (.byte (s) ((↑i : Int)) (y)
 (.exB fun b =>
 (.exB fun b1 =>
 (.exB fun b2 =>
 (.exB fun b3 =>
 (.exB fun b4 =>
 (.exB fun b5 =>
 (.call f_lex_sorted [(.val (.int .u8 ((↑y.toNat : Int))))] .none [] ⟨(.ret (.agg [(vB (b)), (vB (b1)), (vB (b2)), (vB (b3)), (vB (b4)), (vB (b5))])), .none, []⟩
 (.need true
 (.branch (b2)
 (.done ⟨tm2 22 [(0, (vS (s))), (1, (vI (IntKind.i64.wrap ((↑i : Int) + 1)))), (2, (.func (.func f_lex_one_1) [] []))], lm2 22 [], ⟨[], [], .none, 0⟩⟩)
 (.out (.need true
 (.ret ⟨(.ret (vI ((↑i : Int)))), .none, []⟩))))))))))))))
 (.out (.need true
 (.ret ⟨(.ret (vI ((↑i : Int)))), .none, []⟩)))) := by kernel_rfl
theorem X_runR3_eq (s : ByteArray) (a : Nat) (i : Nat) : KT.round Pg cfg0 rs0 kc3 (Y_run s a f_lex_one_2) { tmps := tm2 22 [(0, vS s), (1, vI (↑i : Int)), (2, AV.func (Fn.func f_lex_one_2) [] [])], lh := lm2 22 [], g := { H := [], defers := [], rm := RM.none, base := 0 } } =
 (.branch (decide ((↑i : Int) < (↑s.size : Int)))
 (.exY fun y =>
 (.byte (s) ((↑i : Int)) (y)
 (.exB fun b =>
 (.exB fun b1 =>
 (.exB fun b2 =>
 (.exB fun b3 =>
 (.exB fun b4 =>
 (.exB fun b5 =>
 (.call f_lex_sorted [(.val (.int .u8 ((↑y.toNat : Int))))] .none [] ⟨(.ret (.agg [(vB (b)), (vB (b1)), (vB (b2)), (vB (b3)), (vB (b4)), (vB (b5))])), .none, []⟩
 (.need true
 (.branch (b4)
 (.done ⟨tm2 22 [(0, (vS (s))), (1, (vI (IntKind.i64.wrap ((↑i : Int) + 1)))), (2, (.func (.func f_lex_one_2) [] []))], lm2 22 [], ⟨[], [], .none, 0⟩⟩)
 (.out (.need true
 (.ret ⟨(.ret (vI ((↑i : Int)))), .none, []⟩))))))))))))))
 (.out (.need true
 (.ret ⟨(.ret (vI ((↑i : Int)))), .none, []⟩)))) := by kernel_rfl
theorem X_remarkR_eq (s : ByteArray) (a : Nat) (i : Nat) (d : Nat) : KT.round Pg cfg0 rs0 kc3 (Y_remark s a) { tmps := tm2 33 [(0, vS s), (1, vI (↑i : Int)), (5, vI (↑d : Int))], lh := lm2 33 [], g := { H := [], defers := [], rm := RM.none, base := 0 } } =
 (.branch (decide ((↑i : Int) < (↑s.size : Int)))
 (.need (decide (0 ≤ (↑i : Int) ∧ (↑i : Int) ≤ (↑s.size : Int) ∧ (↑s.size : Int) ≤ (↑s.size : Int)))
 (.exB fun b =>
 (.call f_strings_HasPrefix [(vS (s.extract (↑i : Int).toNat (↑s.size : Int).toNat)), (vS ((⟨#[40, 42]⟩ : ByteArray)))] .none [] ⟨(.ret (vB (b))), .none, []⟩
 (.branch (b)
 (.done ⟨tm2 33 [(0, (vS (s))), (1, (vI (IntKind.i64.wrap ((↑i : Int) + 2)))), (5, (vI (IntKind.i64.wrap ((↑d : Int) + 1))))], lm2 33 [], ⟨[], [], .none, 0⟩⟩)
 (.need (decide (0 ≤ (↑i : Int) ∧ (↑i : Int) ≤ (↑s.size : Int) ∧ (↑s.size : Int) ≤ (↑s.size : Int)))
 (.exB fun b1 =>
 (.call f_strings_HasPrefix [(vS (s.extract (↑i : Int).toNat (↑s.size : Int).toNat)), (vS ((⟨#[42, 41]⟩ : ByteArray)))] .none [] ⟨(.ret (vB (b1))), .none, []⟩
 (.branch (b1)
 (.branch (IntKind.i64.wrap ((↑d : Int) - 1) == 0)
 (.out (.need true
 (.ret ⟨(.ret (vI (IntKind.i64.wrap ((↑i : Int) + 2)))), .none, []⟩)))
 (.done ⟨tm2 33 [(0, (vS (s))), (1, (vI (IntKind.i64.wrap ((↑i : Int) + 2)))), (5, (vI (IntKind.i64.wrap ((↑d : Int) - 1))))], lm2 33 [], ⟨[], [], .none, 0⟩⟩))
 (.done ⟨tm2 33 [(0, (vS (s))), (1, (vI (IntKind.i64.wrap ((↑i : Int) + 1)))), (5, (vI ((↑d : Int))))], lm2 33 [], ⟨[], [], .none, 0⟩⟩)))))))))
 (.out (.need true
 (.ret ⟨(.ret (vI (-1))), .none, []⟩)))) := by kernel_rfl
theorem X_skippedR_eq (s : ByteArray) (a : Nat) (i : Nat) : KT.round Pg cfg0 rs0 kc3 (Y_skipped s a) { tmps := tm2 33 [(0, vS s), (1, vI (↑i : Int))], lh := lm2 33 [], g := { H := [], defers := [], rm := RM.none, base := 0 } } =
 (.branch (decide ((↑i : Int) < (↑s.size : Int)))
 (.exY fun y =>
 (.byte (s) ((↑i : Int)) (y)
 (.exB fun b =>
 (.exB fun b1 =>
 (.exB fun b2 =>
 (.exB fun b3 =>
 (.exB fun b4 =>
 (.exB fun b5 =>
 (.call f_lex_sorted [(.val (.int .u8 ((↑y.toNat : Int))))] .none [] ⟨(.ret (.agg [(vB (b)), (vB (b1)), (vB (b2)), (vB (b3)), (vB (b4)), (vB (b5))])), .none, []⟩
 (.branch (b5)
 (.done ⟨tm2 33 [(0, (vS (s))), (1, (vI (IntKind.i64.wrap ((↑i : Int) + 1))))], lm2 33 [], ⟨[], [], .none, 0⟩⟩)
 (.need (decide (0 ≤ (↑i : Int) ∧ (↑i : Int) ≤ (↑s.size : Int) ∧ (↑s.size : Int) ≤ (↑s.size : Int)))
 (.exB fun b6 =>
 (.call f_strings_HasPrefix [(vS (s.extract (↑i : Int).toNat (↑s.size : Int).toNat)), (vS ((⟨#[40, 42]⟩ : ByteArray)))] .none [] ⟨(.ret (vB (b6))), .none, []⟩
 (.branch (b6)
 (.exI fun i1 =>
 (.call f_lex_remark [(vS (s)), (vI ((↑i : Int)))] .none [] ⟨(.ret (vI (i1))), .none, []⟩
 (.branch (decide (i1 < 0))
 (.out (.need true
 (.ret ⟨(.ret (.tuple [(vI ((↑i : Int))), (vB false)])), .none, []⟩)))
 (.done ⟨tm2 33 [(0, (vS (s))), (1, (vI (i1)))], lm2 33 [], ⟨[], [], .none, 0⟩⟩))))
 (.out (.need true
 (.ret ⟨(.ret (.tuple [(vI ((↑i : Int))), (vB true)])), .none, []⟩)))))))))))))))))
 (.out (.need true
 (.ret ⟨(.ret (.tuple [(vI ((↑i : Int))), (vB true)])), .none, []⟩)))) := by kernel_rfl
@[irreducible] noncomputable def X_word (s : ByteArray) (a : Nat) (b : Bool) : KT := kt3 f_lex_word [vS s, vI (↑a : Int), vB b] []
theorem X_word_eq (s : ByteArray) (a : Nat) (b : Bool) : kt3 f_lex_word [vS s, vI (↑a : Int), vB b] [] =
 (.exI fun i =>
 (.call f_lex_run [(vS (s)), (vI ((↑a : Int))), (.func (.func f_lex_word_1) [] [])] .none [] ⟨(.ret (vI (i))), .none, []⟩
 (.need (decide (0 ≤ (↑a : Int) ∧ (↑a : Int) ≤ i ∧ i ≤ (↑s.size : Int)))
 (.stage
 (.branch (b)
 (.done ⟨tm2 29 [(6, (.lp 6 0 0)), (8, (.lp 8 0 0))], lm2 29 [(6, (0, [(vI (0)), (vS ((⟨#[]⟩ : ByteArray))), (vI (0)), (vI (0))])), (8, (0, [(vI (2)), (vS (s.extract (↑a : Int).toNat i.toNat)), (vI (0)), (vI ((↑a : Int)))]))], ⟨[], [], .none, 0⟩⟩)
 (.exB fun b1 =>
 (.call f_names_Reserved [(vS (s.extract (↑a : Int).toNat i.toNat))] .none [] ⟨(.ret (vB (b1))), .none, []⟩
 (.branch (b1)
 (.done ⟨tm2 29 [(6, (.lp 6 0 0)), (8, (.lp 8 0 0))], lm2 29 [(6, (0, [(vI (0)), (vS ((⟨#[]⟩ : ByteArray))), (vI (0)), (vI (0))])), (8, (0, [(vI (3)), (vS (s.extract (↑a : Int).toNat i.toNat)), (vI (0)), (vI ((↑a : Int)))]))], ⟨[], [], .none, 0⟩⟩)
 (.done ⟨tm2 29 [(6, (.lp 6 0 0)), (8, (.lp 8 0 0))], lm2 29 [(6, (0, [(vI (0)), (vS ((⟨#[]⟩ : ByteArray))), (vI (0)), (vI (0))])), (8, (0, [(vI (1)), (vS (s.extract (↑a : Int).toNat i.toNat)), (vI (0)), (vI ((↑a : Int)))]))], ⟨[], [], .none, 0⟩⟩)))))
 (((X_word s a b).I i).T.T.K))))) := by kernel_rfl
@[irreducible] noncomputable def X_words1 (s : ByteArray) (a : Nat) (b : Bool) (i : Int) (q1x0 : Int) : KT := ((X_word s a b).I i).T.T.K ⟨tm2 29 [(6, (.lp 6 0 0)), (8, (.lp 8 0 0))], lm2 29 [(6, (0, [(vI (0)), (vS ((⟨#[]⟩ : ByteArray))), (vI (0)), (vI (0))])), (8, (0, [(vI (q1x0)), (vS (s.extract (↑a : Int).toNat i.toNat)), (vI (0)), (vI ((↑a : Int)))]))], ⟨[], [], .none, 0⟩⟩
theorem X_words1_eq (s : ByteArray) (a : Nat) (b : Bool) (i : Int) (q1x0 : Int) : ((X_word s a b).I i).T.T.K ⟨tm2 29 [(6, (.lp 6 0 0)), (8, (.lp 8 0 0))], lm2 29 [(6, (0, [(vI (0)), (vS ((⟨#[]⟩ : ByteArray))), (vI (0)), (vI (0))])), (8, (0, [(vI (q1x0)), (vS (s.extract (↑a : Int).toNat i.toNat)), (vI (0)), (vI ((↑a : Int)))]))], ⟨[], [], .none, 0⟩⟩ =
 (.branch (decide ((↑(s.extract (↑a : Int).toNat i.toNat).size : Int) > 32))
 (.need true
 (.ret ⟨(.ret (.tuple [(.agg [(vI (0)), (vS ((⟨#[]⟩ : ByteArray))), (vI (0)), (vI (0))]), (vI (12))])), .none, []⟩))
 (.need true
 (.ret ⟨(.ret (.tuple [(.agg [(vI (q1x0)), (vS (s.extract (↑a : Int).toNat i.toNat)), (vI (0)), (vI ((↑a : Int)))]), (vI (0))])), .none, []⟩))) := by kernel_rfl
-- STAGE X_words1: told for any #[q1x0]
@[irreducible] noncomputable def X_one (s : ByteArray) (a : Nat) : KT := kt3 f_lex_one [vS s, vI (↑a : Int)] []
theorem X_one_eq (s : ByteArray) (a : Nat) : kt3 f_lex_one [vS s, vI (↑a : Int)] [] =
 (.exY fun y =>
 (.byte (s) ((↑a : Int)) (y)
 (.exB fun b =>
 (.exB fun b1 =>
 (.exB fun b2 =>
 (.exB fun b3 =>
 (.exB fun b4 =>
 (.exB fun b5 =>
 (.call f_lex_sorted [(.val (.int .u8 ((↑y.toNat : Int))))] .none [] ⟨(.ret (.agg [(vB (b)), (vB (b1)), (vB (b2)), (vB (b3)), (vB (b4)), (vB (b5))])), .none, []⟩
 (.stage
 (.branch (b)
 (.exI fun i =>
 (.exS fun s1 =>
 (.exI fun i1 =>
 (.exI fun i2 =>
 (.exI fun i3 =>
 (.call f_lex_word [(vS (s)), (vI ((↑a : Int))), (vB (b1))] .none [] ⟨(.ret (.tuple [(.agg [(vI (i)), (vS (s1)), (vI (i1)), (vI (i2))]), (vI (i3))])), .none, []⟩
 (.out (.need true
 (.ret ⟨(.ret (.tuple [(.agg [(vI (i)), (vS (s1)), (vI (i1)), (vI (i2))]), (vI (i3))])), .none, []⟩)))))))))
 (.branch (b1)
 (.exI fun i =>
 (.exS fun s1 =>
 (.exI fun i1 =>
 (.exI fun i2 =>
 (.exI fun i3 =>
 (.call f_lex_word [(vS (s)), (vI ((↑a : Int))), (vB (b1))] .none [] ⟨(.ret (.tuple [(.agg [(vI (i)), (vS (s1)), (vI (i1)), (vI (i2))]), (vI (i3))])), .none, []⟩
 (.out (.need true
 (.ret ⟨(.ret (.tuple [(.agg [(vI (i)), (vS (s1)), (vI (i1)), (vI (i2))]), (vI (i3))])), .none, []⟩)))))))))
 (.branch (b2)
 (.exI fun i =>
 (.call f_lex_run [(vS (s)), (vI ((↑a : Int))), (.func (.func f_lex_one_1) [] [])] .none [] ⟨(.ret (vI (i))), .none, []⟩
 (.need (decide (0 ≤ (↑a : Int) ∧ (↑a : Int) ≤ i ∧ i ≤ (↑s.size : Int)))
 (.exI fun i1 =>
 (.alt
 (.call f_strconv_ParseInt [(vS (s.extract (↑a : Int).toNat i.toNat)), (vI (10)), (vI (64))] .none [] ⟨(.ret (.tuple [(vI (i1)), (.val .nilIface)])), .none, []⟩
 (.branch (!true)
 (.out (.need true
 (.ret ⟨(.ret (.tuple [(.agg [(vI (0)), (vS ((⟨#[]⟩ : ByteArray))), (vI (0)), (vI (0))]), (vI (1))])), .none, []⟩)))
 (.out (.need true
 (.ret ⟨(.ret (.tuple [(.agg [(vI (4)), (vS (s.extract (↑a : Int).toNat i.toNat)), (vI (i1)), (vI ((↑a : Int)))]), (vI (0))])), .none, []⟩)))))
 (.call f_strconv_ParseInt [(vS (s.extract (↑a : Int).toNat i.toNat)), (vI (10)), (vI (64))] .none [] ⟨(.ret (.tuple [(vI (i1)), (.iface y_p_strconv_NumError .any)])), .none, []⟩
 (.branch (!false)
 (.out (.need true
 (.ret ⟨(.ret (.tuple [(.agg [(vI (0)), (vS ((⟨#[]⟩ : ByteArray))), (vI (0)), (vI (0))]), (vI (1))])), .none, []⟩)))
 (.out (.need true
 (.ret ⟨(.ret (.tuple [(.agg [(vI (4)), (vS (s.extract (↑a : Int).toNat i.toNat)), (vI (i1)), (vI ((↑a : Int)))]), (vI (0))])), .none, []⟩))))))))))
 (.exY fun y1 =>
 (.byte (s) ((↑a : Int)) (y1)
 (.branch ((↑y1.toNat : Int) == 39)
 (.exI fun i =>
 (.call f_lex_run [(vS (s)), (vI (IntKind.i64.wrap ((↑a : Int) + 1))), (.func (.func f_lex_one_2) [] [])] .none [] ⟨(.ret (vI (i))), .none, []⟩
 (.stage
 (.branch (i == IntKind.i64.wrap ((↑a : Int) + 1))
 (.out (.out (.need true
 (.ret ⟨(.ret (.tuple [(.agg [(vI (0)), (vS ((⟨#[]⟩ : ByteArray))), (vI (0)), (vI (0))]), (vI (10))])), .none, []⟩))))
 (.exY fun y2 =>
 (.byte (s) (IntKind.i64.wrap ((↑a : Int) + 1)) (y2)
 (.exB fun b6 =>
 (.exB fun b7 =>
 (.exB fun b8 =>
 (.exB fun b9 =>
 (.exB fun b10 =>
 (.exB fun b11 =>
 (.call f_lex_sorted [(.val (.int .u8 ((↑y2.toNat : Int))))] .none [] ⟨(.ret (.agg [(vB (b6)), (vB (b7)), (vB (b8)), (vB (b9)), (vB (b10)), (vB (b11))])), .none, []⟩
 (.branch (!b6)
 (.out (.out (.need true
 (.ret ⟨(.ret (.tuple [(.agg [(vI (0)), (vS ((⟨#[]⟩ : ByteArray))), (vI (0)), (vI (0))]), (vI (10))])), .none, []⟩))))
 (.done ⟨tm2 113 [(0, (vS (s))), (1, (vI ((↑a : Int)))), (4, (.lp 4 0 0)), (10, (vI (i)))], lm2 113 [(4, (0, [(vI (0)), (vS ((⟨#[]⟩ : ByteArray))), (vI (0)), (vI (0))]))], ⟨[], [], .none, 0⟩⟩))))))))))))
 (((((((((((X_one s a).Y y).T.B b).B b1).B b2).B b3).B b4).B b5).T.T.F.F.F.Y y1).T.T.I i).T.K))))
 (.done ⟨tm2 113 [(0, (vS (s))), (1, (vI ((↑a : Int)))), (4, (.lp 4 0 0))], lm2 113 [(4, (0, [(vI (0)), (vS ((⟨#[]⟩ : ByteArray))), (vI (0)), (vI (0))]))], ⟨[], [], .none, 0⟩⟩)))))))
 (((((((((X_one s a).Y y).T.B b).B b1).B b2).B b3).B b4).B b5).T.K))))))))))) := by kernel_rfl
theorem X_ones1_eq (s : ByteArray) (a : Nat) (y : UInt8) (b : Bool) (b1 : Bool) (b2 : Bool) (b3 : Bool) (b4 : Bool) (b5 : Bool) (y1 : UInt8) (i : Int) : ((((((((((X_one s a).Y y).T.B b).B b1).B b2).B b3).B b4).B b5).T.T.F.F.F.Y y1).T.T.I i).T.K ⟨tm2 113 [(0, (vS (s))), (1, (vI ((↑a : Int)))), (4, (.lp 4 0 0)), (10, (vI (i)))], lm2 113 [(4, (0, [(vI (0)), (vS ((⟨#[]⟩ : ByteArray))), (vI (0)), (vI (0))]))], ⟨[], [], .none, 0⟩⟩ =
 (.branch (decide (IntKind.i64.wrap (i - (↑a : Int)) > 32))
 (.out (.need true
 (.ret ⟨(.ret (.tuple [(.agg [(vI (0)), (vS ((⟨#[]⟩ : ByteArray))), (vI (0)), (vI (0))]), (vI (12))])), .none, []⟩)))
 (.need (decide (0 ≤ (↑a : Int) ∧ (↑a : Int) ≤ i ∧ i ≤ (↑s.size : Int)))
 (.out (.need true
 (.ret ⟨(.ret (.tuple [(.agg [(vI (5)), (vS (s.extract (↑a : Int).toNat i.toNat)), (vI (0)), (vI ((↑a : Int)))]), (vI (0))])), .none, []⟩))))) := by kernel_rfl
theorem X_oneR_eq (s : ByteArray) (a : Nat) (y : UInt8) (b : Bool) (b1 : Bool) (b2 : Bool) (b3 : Bool) (b4 : Bool) (b5 : Bool) (i : Nat) : KT.round Pg cfg0 rs0 kc3 (Y_ones2 s a y b b1 b2 b3 b4 b5) { tmps := tm2 113 [(0, vS s), (1, vI (↑a : Int)), (4, AV.lp 4 0 0), (84, AV.slice 1 [[vS (⟨#[58, 62]⟩ : ByteArray)], [vS (⟨#[61, 62]⟩ : ByteArray)], [vS (⟨#[45, 62]⟩ : ByteArray)]] Own.full), (85, vI 3), (86, vI (↑i : Int))], lh := lm2 113 [(4, 0, [vI 0, vS (⟨#[]⟩ : ByteArray), vI 0, vI 0])], g := { H := [], defers := [], rm := RM.none, base := 0 } } =
 (.branch (decide ((↑i : Int) < 3))
 (.exS fun s1 =>
 (.row [[(vS ((⟨#[58, 62]⟩ : ByteArray)))], [(vS ((⟨#[61, 62]⟩ : ByteArray)))], [(vS ((⟨#[45, 62]⟩ : ByteArray)))]] ((↑i : Int)) [(vS (s1))]
 (.need (decide (0 ≤ (↑a : Int) ∧ (↑a : Int) ≤ (↑s.size : Int) ∧ (↑s.size : Int) ≤ (↑s.size : Int)))
 (.exB fun b6 =>
 (.call f_strings_HasPrefix [(vS (s.extract (↑a : Int).toNat (↑s.size : Int).toNat)), (vS (s1))] .none [] ⟨(.ret (vB (b6))), .none, []⟩
 (.branch (b6)
 (.out (.need true
 (.ret ⟨(.ret (.tuple [(.agg [(vI (6)), (vS (s1)), (vI (0)), (vI ((↑a : Int)))]), (vI (0))])), .none, []⟩)))
 (.done ⟨tm2 113 [(0, (vS (s))), (1, (vI ((↑a : Int)))), (4, (.lp 4 0 0)), (84, (.slice 1 [[(vS ((⟨#[58, 62]⟩ : ByteArray)))], [(vS ((⟨#[61, 62]⟩ : ByteArray)))], [(vS ((⟨#[45, 62]⟩ : ByteArray)))]] .full)), (85, (vI (3))), (86, (vI (IntKind.i64.wrap ((↑i : Int) + 1))))], lm2 113 [(4, (0, [(vI (0)), (vS ((⟨#[]⟩ : ByteArray))), (vI (0)), (vI (0))]))], ⟨[], [], .none, 0⟩⟩)))))))
 (.out (.exY fun y1 =>
 (.byte (s) ((↑a : Int)) (y1)
 (.exB fun b6 =>
 (.call f_strings_ContainsRune [(vS ((⟨#[40, 41, 44, 59, 58, 61, 42, 43, 45, 47, 60, 124, 95, 46]⟩ : ByteArray))), (.val (.int .i32 (IntKind.i32.wrap (↑y1.toNat : Int))))] .none [] ⟨(.ret (vB (b6))), .none, []⟩
 (.branch (!b6)
 (.need true
 (.ret ⟨(.ret (.tuple [(.agg [(vI (0)), (vS ((⟨#[]⟩ : ByteArray))), (vI (0)), (vI (0))]), (vI (10))])), .none, []⟩))
 (.need (decide (0 ≤ (↑a : Int) ∧ (↑a : Int) ≤ IntKind.i64.wrap ((↑a : Int) + 1) ∧ IntKind.i64.wrap ((↑a : Int) + 1) ≤ (↑s.size : Int)))
 (.need true
 (.ret ⟨(.ret (.tuple [(.agg [(vI (6)), (vS (s.extract (↑a : Int).toNat (IntKind.i64.wrap ((↑a : Int) + 1)).toNat)), (vI (0)), (vI ((↑a : Int)))]), (vI (0))])), .none, []⟩)))))))))) := by kernel_rfl
@[irreducible] noncomputable def X_Lex (s : ByteArray) : KT := kt3 f_lex_Lex [vS s] []
theorem X_Lex_eq (s : ByteArray) : kt3 f_lex_Lex [vS s] [] =
 (.branch (decide ((↑s.size : Int) > 4096))
 (.need true
 (.ret ⟨(.ret (.tuple [(.slice 4 [] .no), (vI (0)), (vI (3))])), .none, []⟩))
 ((X_Lex s).F) /- LOOP f_lex_Lex block 0 at ⟨tm2 54 [(0, (vS (s))), (5, (.slice 0 [] .full)), (6, (vI (0)))], lm2 54 [], ⟨[], [], .none, 0⟩⟩ -/) := by kernel_rfl
-- LOOP (X_Lex s).F
@[irreducible] noncomputable def X_LexR (s : ByteArray) (l : List (List AV)) (i : Nat) : KT := KT.round Pg cfg0 rs0 kc3 (Y_Lex s) { tmps := tm2 54 [(0, vS s), (5, AV.slice 4 l Own.yes), (6, vI (↑i : Int))], lh := lm2 54 [], g := { H := [], defers := [], rm := RM.none, base := 0 } }
theorem X_LexR_eq (s : ByteArray) (l : List (List AV)) (i : Nat) : KT.round Pg cfg0 rs0 kc3 (Y_Lex s) { tmps := tm2 54 [(0, vS s), (5, AV.slice 4 l Own.yes), (6, vI (↑i : Int))], lh := lm2 54 [], g := { H := [], defers := [], rm := RM.none, base := 0 } } =
 (.exI fun i1 =>
 (.exB fun b =>
 (.call f_lex_skipped [(vS (s)), (vI ((↑i : Int)))] .none [] ⟨(.ret (.tuple [(vI (i1)), (vB (b))])), .none, []⟩
 (.branch (!b)
 (.out (.need true
 (.ret ⟨(.ret (.tuple [(.slice 4 [] .no), (vI (i1)), (vI (10))])), .none, []⟩)))
 (.branch (i1 == (↑s.size : Int))
 (.out (.need true
 (.ret ⟨(.ret (.tuple [(.slice 4 (l) .no), (vI (0)), (vI (0))])), .none, []⟩)))
 (.exI fun i2 =>
 (.exS fun s1 =>
 (.exI fun i3 =>
 (.exI fun i4 =>
 (.exI fun i5 =>
 (.call f_lex_one [(vS (s)), (vI (i1))] .none [] ⟨(.ret (.tuple [(.agg [(vI (i2)), (vS (s1)), (vI (i3)), (vI (i4))]), (vI (i5))])), .none, []⟩
 (.stage
 (.branch (i5 == 0)
 (.branch ((↑l.length : Int) == 1024)
 (.done ⟨tm2 54 [(0, (vS (s))), (5, (.slice 4 (l) .yes)), (7, (vI (i1))), (9, (.lp 9 0 0)), (10, (vI (3)))], lm2 54 [(9, (0, [(vI (i2)), (vS (s1)), (vI (i3)), (vI (i4))]))], ⟨[], [], .none, 0⟩⟩)
 (.done ⟨tm2 54 [(0, (vS (s))), (5, (.slice 4 (l) .yes)), (7, (vI (i1))), (9, (.lp 9 0 0)), (10, (vI (i5)))], lm2 54 [(9, (0, [(vI (i2)), (vS (s1)), (vI (i3)), (vI (i4))]))], ⟨[], [], .none, 0⟩⟩))
 (.done ⟨tm2 54 [(0, (vS (s))), (5, (.slice 4 (l) .yes)), (7, (vI (i1))), (9, (.lp 9 0 0)), (10, (vI (i5)))], lm2 54 [(9, (0, [(vI (i2)), (vS (s1)), (vI (i3)), (vI (i4))]))], ⟨[], [], .none, 0⟩⟩))
 (((((((((X_LexR s l i).I i1).B b).T.F.F.I i2).S s1).I i3).I i4).I i5).T.K))))))))))))) := by kernel_rfl
@[irreducible] noncomputable def X_LexRs1 (s : ByteArray) (l : List (List AV)) (i : Nat) (i1 : Int) (b : Bool) (i2 : Int) (s1 : ByteArray) (i3 : Int) (i4 : Int) (i5 : Int) (q1x0 : Int) : KT := ((((((((X_LexR s l i).I i1).B b).T.F.F.I i2).S s1).I i3).I i4).I i5).T.K ⟨tm2 54 [(0, (vS (s))), (5, (.slice 4 (l) .yes)), (7, (vI (i1))), (9, (.lp 9 0 0)), (10, (vI (q1x0)))], lm2 54 [(9, (0, [(vI (i2)), (vS (s1)), (vI (i3)), (vI (i4))]))], ⟨[], [], .none, 0⟩⟩
theorem X_LexRs1_eq (s : ByteArray) (l : List (List AV)) (i : Nat) (i1 : Int) (b : Bool) (i2 : Int) (s1 : ByteArray) (i3 : Int) (i4 : Int) (i5 : Int) (q1x0 : Int) : ((((((((X_LexR s l i).I i1).B b).T.F.F.I i2).S s1).I i3).I i4).I i5).T.K ⟨tm2 54 [(0, (vS (s))), (5, (.slice 4 (l) .yes)), (7, (vI (i1))), (9, (.lp 9 0 0)), (10, (vI (q1x0)))], lm2 54 [(9, (0, [(vI (i2)), (vS (s1)), (vI (i3)), (vI (i4))]))], ⟨[], [], .none, 0⟩⟩ =
 (.branch (q1x0 != 0)
 (.out (.need true
 (.ret ⟨(.ret (.tuple [(.slice 4 [] .no), (vI (i1)), (vI (q1x0))])), .none, []⟩)))
 (.need ((l.length + [[(AV.val (Value.int IntKind.i64 i2)).dis.dis, (AV.val (Value.string s1)).dis.dis, (AV.val (Value.int IntKind.i64 i3)).dis.dis, (AV.val (Value.int IntKind.i64 i4)).dis.dis]].length).ble 2147483648)
 (.done ⟨tm2 54 [(0, (vS (s))), (5, (.slice 4 (l ++ List.map (fun x => List.map AV.dis x) [[(AV.val (Value.int IntKind.i64 i2)).dis.dis, (AV.val (Value.string s1)).dis.dis, (AV.val (Value.int IntKind.i64 i3)).dis.dis, (AV.val (Value.int IntKind.i64 i4)).dis.dis]]) .yes)), (6, (vI (IntKind.i64.wrap (i1 + (↑s1.size : Int)))))], lm2 54 [], ⟨[], [], .none, 0⟩⟩))) := by kernel_rfl
-- STAGE X_LexRs1: told for any #[q1x0]
@[irreducible] noncomputable def X_LexR0 (s : ByteArray) (i : Nat) : KT := KT.round Pg cfg0 rs0 kc3 (Y_Lex s) { tmps := tm2 54 [(0, vS s), (5, AV.slice 0 [] Own.full), (6, vI (↑i : Int))], lh := lm2 54 [], g := { H := [], defers := [], rm := RM.none, base := 0 } }
theorem X_LexR0_eq (s : ByteArray) (i : Nat) : KT.round Pg cfg0 rs0 kc3 (Y_Lex s) { tmps := tm2 54 [(0, vS s), (5, AV.slice 0 [] Own.full), (6, vI (↑i : Int))], lh := lm2 54 [], g := { H := [], defers := [], rm := RM.none, base := 0 } } =
 (.exI fun i1 =>
 (.exB fun b =>
 (.call f_lex_skipped [(vS (s)), (vI ((↑i : Int)))] .none [] ⟨(.ret (.tuple [(vI (i1)), (vB (b))])), .none, []⟩
 (.branch (!b)
 (.out (.need true
 (.ret ⟨(.ret (.tuple [(.slice 4 [] .no), (vI (i1)), (vI (10))])), .none, []⟩)))
 (.branch (i1 == (↑s.size : Int))
 (.out (.need true
 (.ret ⟨(.ret (.tuple [(.slice 4 [] .no), (vI (0)), (vI (0))])), .none, []⟩)))
 (.exI fun i2 =>
 (.exS fun s1 =>
 (.exI fun i3 =>
 (.exI fun i4 =>
 (.exI fun i5 =>
 (.call f_lex_one [(vS (s)), (vI (i1))] .none [] ⟨(.ret (.tuple [(.agg [(vI (i2)), (vS (s1)), (vI (i3)), (vI (i4))]), (vI (i5))])), .none, []⟩
 (.stage
 (.branch (i5 == 0)
 (.branch ((↑([] : List (List AV)).length : Int) == 1024)
 (.done ⟨tm2 54 [(0, (vS (s))), (5, (.slice 0 [] .full)), (7, (vI (i1))), (9, (.lp 9 0 0)), (10, (vI (3)))], lm2 54 [(9, (0, [(vI (i2)), (vS (s1)), (vI (i3)), (vI (i4))]))], ⟨[], [], .none, 0⟩⟩)
 (.done ⟨tm2 54 [(0, (vS (s))), (5, (.slice 0 [] .full)), (7, (vI (i1))), (9, (.lp 9 0 0)), (10, (vI (i5)))], lm2 54 [(9, (0, [(vI (i2)), (vS (s1)), (vI (i3)), (vI (i4))]))], ⟨[], [], .none, 0⟩⟩))
 (.done ⟨tm2 54 [(0, (vS (s))), (5, (.slice 0 [] .full)), (7, (vI (i1))), (9, (.lp 9 0 0)), (10, (vI (i5)))], lm2 54 [(9, (0, [(vI (i2)), (vS (s1)), (vI (i3)), (vI (i4))]))], ⟨[], [], .none, 0⟩⟩))
 (((((((((X_LexR0 s i).I i1).B b).T.F.F.I i2).S s1).I i3).I i4).I i5).T.K))))))))))))) := by kernel_rfl
@[irreducible] noncomputable def X_LexR0s1 (s : ByteArray) (i : Nat) (i1 : Int) (b : Bool) (i2 : Int) (s1 : ByteArray) (i3 : Int) (i4 : Int) (i5 : Int) (q1x0 : Int) : KT := ((((((((X_LexR0 s i).I i1).B b).T.F.F.I i2).S s1).I i3).I i4).I i5).T.K ⟨tm2 54 [(0, (vS (s))), (5, (.slice 0 [] .full)), (7, (vI (i1))), (9, (.lp 9 0 0)), (10, (vI (q1x0)))], lm2 54 [(9, (0, [(vI (i2)), (vS (s1)), (vI (i3)), (vI (i4))]))], ⟨[], [], .none, 0⟩⟩
theorem X_LexR0s1_eq (s : ByteArray) (i : Nat) (i1 : Int) (b : Bool) (i2 : Int) (s1 : ByteArray) (i3 : Int) (i4 : Int) (i5 : Int) (q1x0 : Int) : ((((((((X_LexR0 s i).I i1).B b).T.F.F.I i2).S s1).I i3).I i4).I i5).T.K ⟨tm2 54 [(0, (vS (s))), (5, (.slice 0 [] .full)), (7, (vI (i1))), (9, (.lp 9 0 0)), (10, (vI (q1x0)))], lm2 54 [(9, (0, [(vI (i2)), (vS (s1)), (vI (i3)), (vI (i4))]))], ⟨[], [], .none, 0⟩⟩ =
 (.branch (q1x0 != 0)
 (.out (.need true
 (.ret ⟨(.ret (.tuple [(.slice 4 [] .no), (vI (i1)), (vI (q1x0))])), .none, []⟩)))
 (.need true
 (.done ⟨tm2 54 [(0, (vS (s))), (5, (.slice 4 [[(vI (i2)), (vS (s1)), (vI (i3)), (vI (i4))]] .yes)), (6, (vI (IntKind.i64.wrap (i1 + (↑s1.size : Int)))))], lm2 54 [], ⟨[], [], .none, 0⟩⟩))) := by kernel_rfl
-- STAGE X_LexR0s1: told for any #[q1x0]
end Go.Proofs
end

section
/- LEX, plain: what a text's tokens are, over lists of bytes. -/
set_option linter.unusedVariables false
set_option linter.unusedSimpArgs false
namespace Go.Lx
def low (c : UInt8) : Bool := decide (97 ≤ c) && decide (c ≤ 122)
def high (c : UInt8) : Bool := decide (65 ≤ c) && decide (c ≤ 90)
def digit (c : UInt8) : Bool := decide (48 ≤ c) && decide (c ≤ 57)
def blank (c : UInt8) : Bool := c == 32 || (c == 9 || (c == 10 || c == 13))
def wordB (c : UInt8) : Bool := low c || (high c || (digit c || c == 95))
def tyvB (c : UInt8) : Bool := low c || digit c
abbrev T := List UInt8
/-- How far bytes of a sort go. -/
def span (p : UInt8 → Bool) : T → Nat
  | [] => 0
  | c :: l => if p c then span p l + 1 else 0
def opens : T → Bool
  | 40 :: 42 :: _ => true
  | _ => false
def closes : T → Bool
  | 42 :: 41 :: _ => true
  | _ => false
/-- Behind a remark, from inside it, d deep: how many bytes. -/
def rem (l : T) (d : Nat) : Option Nat :=
  match l with
  | [] => none
  | c :: r =>
    if opens (c :: r) then (rem (r.drop 1) (d + 1)).map (· + 2)
    else if closes (c :: r) then (if d ≤ 1 then some 2 else (rem (r.drop 1) (d - 1)).map (· + 2))
    else (rem r d).map (· + 1)
termination_by l.length
decreasing_by all_goals (simp; try omega)
theorem rem_nil (d : Nat) : rem [] d = none := by rw [rem]
theorem rem_cons (c : UInt8) (r : T) (d : Nat) : rem (c :: r) d = if opens (c :: r) then (rem (r.drop 1) (d + 1)).map (· + 2)
    else if closes (c :: r) then (if d ≤ 1 then some 2 else (rem (r.drop 1) (d - 1)).map (· + 2)) else (rem r d).map (· + 1) := by rw [rem]
/-- Blanks and remarks: how many bytes; false: a remark does not end. -/
def skp (l : T) : Nat × Bool :=
  match l with
  | [] => (0, true)
  | c :: r =>
    if blank c then ((skp r).1 + 1, (skp r).2)
    else if opens (c :: r) then match rem (c :: r) 0 with
      | none => (0, false)
      | some n => ((skp (r.drop (n - 1))).1 + n, (skp (r.drop (n - 1))).2)
    else (0, true)
termination_by l.length
decreasing_by all_goals (simp; try omega)
theorem skp_nil : skp [] = (0, true) := by rw [skp]
theorem skp_cons (c : UInt8) (r : T) : skp (c :: r) = if blank c then ((skp r).1 + 1, (skp r).2)
    else if opens (c :: r) then match rem (c :: r) 0 with
      | none => (0, false)
      | some n => ((skp (r.drop (n - 1))).1 + n, (skp (r.drop (n - 1))).2)
    else (0, true) := by rw [skp]
/-- The value of digits; none: above 2^63 - 1. -/
def numFrom : Nat → T → Option Nat
  | v, [] => some v
  | v, c :: l => if 10 * v + (c.toNat - 48) ≤ 9223372036854775807 then numFrom (10 * v + (c.toNat - 48)) l else none
def marks : T := [40, 41, 44, 59, 58, 61, 42, 43, 45, 47, 60, 124, 95, 46]
def two : T → Bool
  | 58 :: 62 :: _ => true
  | 61 :: 62 :: _ => true
  | 45 :: 62 :: _ => true
  | _ => false
/-- What a token is: its kind, how long it is, its number. -/
abbrev Tk := Nat × Nat × Nat
variable (res : T → Bool)
/-- The token that begins a text; or the error. -/
def one (l : T) : Except Nat Tk :=
  match l with
  | [] => .error 10
  | c :: r =>
    if low c || high c then
      (if 32 < span wordB (c :: r) then .error 12
       else .ok (if high c then 2 else if res ((c :: r).take (span wordB (c :: r))) then 3 else 1, span wordB (c :: r), 0))
    else if digit c then match numFrom 0 ((c :: r).take (span digit (c :: r))) with
      | none => .error 1
      | some v => .ok (4, span digit (c :: r), v)
    else if c == 39 then
      (if !(r.head?.map low).getD false then .error 10
       else if 32 < span tyvB r + 1 then .error 12
       else .ok (5, span tyvB r + 1, 0))
    else if two (c :: r) then .ok (6, 2, 0)
    else if marks.contains c then .ok (6, 1, 0)
    else .error 10
structure Tok where
  kind : Nat
  text : T
  n : Nat
  at_ : Nat
/-- All tokens, from a place on, so many being there already; or the place and the error. -/
def lx (l : T) (a cnt : Nat) : Except (Nat × Nat) (List Tok) :=
  match (skp l).2 with
  | false => .error (a + (skp l).1, 10)
  | true => match h : l.drop (skp l).1 with
    | [] => .ok []
    | c :: r => match one res (c :: r) with
      | .error e => .error (a + (skp l).1, e)
      | .ok (k, n, v) => if cnt = 1024 then .error (a + (skp l).1, 3) else
          (lx (r.drop (n - 1)) (a + (skp l).1 + n) (cnt + 1)).map (⟨k, (c :: r).take n, v, a + (skp l).1⟩ :: ·)
termination_by l.length
decreasing_by
  have := congrArg List.length h
  simp at this ⊢; omega
theorem lx_eq (l : T) (a cnt : Nat) : lx res l a cnt = match (skp l).2 with
  | false => .error (a + (skp l).1, 10)
  | true => match l.drop (skp l).1 with
    | [] => .ok []
    | c :: r => match one res (c :: r) with
      | .error e => .error (a + (skp l).1, e)
      | .ok (k, n, v) => if cnt = 1024 then .error (a + (skp l).1, 3) else
          (lx res (r.drop (n - 1)) (a + (skp l).1 + n) (cnt + 1)).map (⟨k, (c :: r).take n, v, a + (skp l).1⟩ :: ·) := by
  rw [lx]
  split
  · rfl
  · split
    · rename_i h; rw [h]
    · rename_i h; rw [h]
/-! ### blanks, and what stands behind them -/
theorem drop_pred {α : Type} (c : α) (r : List α) {n : Nat} (h : 0 < n) : r.drop (n - 1) = (c :: r).drop n := by
  cases n with
  | zero => omega
  | succ n => simp
theorem rem_bound : ∀ {l : T} {d n : Nat}, rem l d = some n → 2 ≤ n ∧ n ≤ l.length := by
  intro l
  induction h : l.length using Nat.strongRecOn generalizing l with
  | ind m ih =>
    intro d n hr
    cases l with
    | nil => rw [rem_nil] at hr; cases hr
    | cons c r =>
      rw [rem_cons] at hr
      simp only [List.length_cons] at h ⊢
      split at hr
      · rename_i ho
        rw [Option.map_eq_some_iff] at hr
        obtain ⟨k, hk, rfl⟩ := hr
        have := ih (r.drop 1).length (by simp; omega) rfl hk
        have hl : r ≠ [] := by rintro rfl; simp [opens] at ho
        cases r with
        | nil => exact absurd rfl hl
        | cons x r => simp at this h ⊢; omega
      · split at hr
        · rename_i hc
          have hl : r ≠ [] := by rintro rfl; simp [closes] at hc
          cases r with
          | nil => exact absurd rfl hl
          | cons x r =>
            split at hr
            · simp at hr h ⊢; omega
            · rw [Option.map_eq_some_iff] at hr
              obtain ⟨k, hk, rfl⟩ := hr
              have := ih ((x :: r).drop 1).length (by simp at h ⊢; omega) rfl hk
              simp at this h ⊢; omega
        · rw [Option.map_eq_some_iff] at hr
          obtain ⟨k, hk, rfl⟩ := hr
          have := ih r.length (by omega) rfl hk
          omega
theorem opens_two {x y : T} (h : 2 ≤ x.length) : opens (x ++ y) = opens x := by
  match x, h with
  | a :: b :: r, _ =>
    by_cases h1 : a = 40
    · by_cases h2 : b = 42
      · subst h1 h2; rfl
      · subst h1
        have e1 : ∀ z, opens (40 :: b :: z) = false := fun z => by unfold opens; split <;> simp_all
        simp [e1]
    · have e1 : ∀ z, opens (a :: z) = false := fun z => by unfold opens; split <;> simp_all
      simp [e1]
theorem closes_two {x y : T} (h : 2 ≤ x.length) : closes (x ++ y) = closes x := by
  match x, h with
  | a :: b :: r, _ =>
    by_cases h1 : a = 42
    · by_cases h2 : b = 41
      · subst h1 h2; rfl
      · subst h1
        have e1 : ∀ z, closes (42 :: b :: z) = false := fun z => by unfold closes; split <;> simp_all
        simp [e1]
    · have e1 : ∀ z, closes (a :: z) = false := fun z => by unfold closes; split <;> simp_all
      simp [e1]
/-- A remark that ends within a text ends there, whatever follows. -/
theorem rem_cut : ∀ {x : T} {y : T} {d n : Nat}, rem (x ++ y) d = some n → n ≤ x.length → ∀ z, rem (x ++ z) d = some n := by
  intro x
  induction h : x.length using Nat.strongRecOn generalizing x with
  | ind m ih =>
    intro y d n hr hn z
    have hb := rem_bound hr
    match x, h with
    | [], h => simp at h; omega
    | [c], h => simp at h; omega
    | c :: b :: r, h =>
      have hx : 2 ≤ (c :: b :: r).length := by simp
      have o1 : opens (c :: (b :: r ++ y)) = opens (c :: b :: r) := opens_two (x := c :: b :: r) hx
      have o2 : opens (c :: (b :: r ++ z)) = opens (c :: b :: r) := opens_two (x := c :: b :: r) hx
      have c1 : closes (c :: (b :: r ++ y)) = closes (c :: b :: r) := closes_two (x := c :: b :: r) hx
      have c2 : closes (c :: (b :: r ++ z)) = closes (c :: b :: r) := closes_two (x := c :: b :: r) hx
      rw [List.cons_append, rem_cons, o1, c1] at hr
      rw [List.cons_append, rem_cons, o2, c2]
      simp only [List.length_cons] at h hn
      split at hr
      · rename_i hop
        rw [if_pos hop]
        rw [Option.map_eq_some_iff] at hr ⊢
        obtain ⟨k, hk, rfl⟩ := hr
        exact ⟨k, ih r.length (by omega) rfl hk (by omega) z, rfl⟩
      · rename_i hop
        rw [if_neg hop]
        split at hr
        · rename_i hcl
          rw [if_pos hcl]
          split at hr
          · rename_i hd; rw [if_pos hd]; exact hr
          · rename_i hd
            rw [if_neg hd]
            rw [Option.map_eq_some_iff] at hr ⊢
            obtain ⟨k, hk, rfl⟩ := hr
            exact ⟨k, ih r.length (by omega) rfl hk (by omega) z, rfl⟩
        · rename_i hcl
          rw [if_neg hcl]
          rw [Option.map_eq_some_iff] at hr ⊢
          obtain ⟨k, hk, rfl⟩ := hr
          exact ⟨k, ih (b :: r).length (by simp; omega) rfl hk (by simp; omega) z, rfl⟩
/-- Blanks and remarks that end. -/
def Blk (x : T) : Prop := ∀ z, skp (x ++ z) = (x.length + (skp z).1, (skp z).2)
theorem Blk.nil : Blk [] := fun z => by simp
theorem Blk.append {x y : T} (h : Blk x) (k : Blk y) : Blk (x ++ y) := fun z => by
  rw [List.append_assoc, h, k]; simp; omega
theorem Blk.cons {c : UInt8} {x : T} (hc : blank c = true) (h : Blk x) : Blk (c :: x) := fun z => by
  rw [List.cons_append, skp_cons, if_pos hc, h]; simp; omega
theorem Blk.lx {x : T} (h : Blk x) (res : T → Bool) (a cnt : Nat) : lx res x a cnt = .ok [] := by
  have := h []
  rw [List.append_nil, skp_nil] at this
  rw [lx_eq, this]
  simp
theorem Blk.remark {x : T} (hb : ∀ c, x.head? = some c → blank c = false) (ho : opens x = true) (hr : rem x 0 = some x.length) : Blk x := fun z => by
  cases x with
  | nil => simp [opens] at ho
  | cons c r =>
    have hc : blank c = false := hb c rfl
    have h2 := rem_bound hr
    have o2 : opens (c :: (r ++ z)) = true := by rw [← List.cons_append, opens_two h2.1]; exact ho
    have hr' : rem ((c :: r) ++ z) 0 = some (c :: r).length := rem_cut (y := []) (by simpa using hr) (Nat.le_refl _) z
    have e : rem (c :: (r ++ z)) 0 = some (c :: r).length := hr'
    rw [List.cons_append, skp_cons, hc, o2, e]
    simp
    omega
theorem skp_bound : ∀ {l : T}, (skp l).1 ≤ l.length := by
  intro l
  induction h : l.length using Nat.strongRecOn generalizing l with
  | ind m ih =>
    cases l with
    | nil => rw [skp_nil]; simp
    | cons c r =>
      simp only [List.length_cons] at h
      rw [skp_cons]
      split
      · have := ih r.length (by omega) rfl; simp; omega
      · split
        · split
          · simp
          · rename_i n hn
            have h2 := rem_bound hn
            have := ih (r.drop (n - 1)).length (by simp; omega) rfl
            simp at this h2 ⊢; omega
        · simp
/-- What was gone over is blanks. -/
theorem skp_blk : ∀ {l : T}, Blk (l.take (skp l).1) := by
  intro l
  induction h : l.length using Nat.strongRecOn generalizing l with
  | ind m ih =>
    cases l with
    | nil => rw [skp_nil]; exact .nil
    | cons c r =>
      simp only [List.length_cons] at h
      rw [skp_cons]
      split
      · rename_i hc
        simp only [List.take_succ_cons]
        exact .cons hc (ih r.length (by omega) rfl)
      · rename_i hc
        split
        · rename_i ho
          split
          · exact .nil
          · rename_i n hn
            have h2 := rem_bound hn
            have hk := ih (r.drop (n - 1)).length (by simp; omega) rfl
            rw [drop_pred c r (by omega)] at hk ⊢
            simp only
            rw [Nat.add_comm, List.take_add]
            refine .append (.remark ?_ ?_ ?_) hk
            · intro x hx
              have : x = c := by
                cases n with
                | zero => omega
                | succ n => simpa using hx.symm
              subst this; simpa using hc
            · have := opens_two (x := (c :: r).take n) (y := (c :: r).drop n) (by rw [List.length_take]; omega)
              rw [List.take_append_drop] at this; rw [← this]; exact ho
            · have := rem_cut (x := (c :: r).take n) (y := (c :: r).drop n) (d := 0) (n := n) (by rw [List.take_append_drop]; exact hn) (by rw [List.length_take]; omega) []
              rw [List.append_nil] at this; rw [this, List.length_take]; congr 1; omega
        · exact .nil
/-- Behind blanks: the end, or what is no blank and begins no remark. -/
theorem skp_stop : ∀ {l : T}, (skp l).2 = true → ∀ {c r}, l.drop (skp l).1 = c :: r → blank c = false ∧ opens (c :: r) = false := by
  intro l
  induction h : l.length using Nat.strongRecOn generalizing l with
  | ind m ih =>
    cases l with
    | nil => rw [skp_nil]; intro _ c r h; simp at h
    | cons x r =>
      simp only [List.length_cons] at h
      rw [skp_cons]
      split
      · intro h2 c q hd
        simp only [List.drop_succ_cons] at hd
        exact ih r.length (by omega) rfl h2 hd
      · rename_i hb
        split
        · split
          · intro h2; cases h2
          · rename_i n hn
            have h2 := rem_bound hn
            intro h3 c q hd
            rw [Nat.add_comm, ← List.drop_drop, ← drop_pred x r (by omega)] at hd
            exact ih (r.drop (n - 1)).length (by simp; omega) rfl h3 hd
        · rename_i ho
          intro _ c q hd
          simp at hd
          obtain ⟨rfl, rfl⟩ := hd
          exact ⟨by simpa using hb, by simpa using ho⟩
end Go.Lx
end

section
/- LEX, plain: a text in pieces: blanks, a token, blanks, a token .. -/
set_option linter.unusedVariables false
set_option linter.unusedSimpArgs false
namespace Go.Lx
def sep : T → Bool
  | [] => true
  | c :: _ => blank c
theorem span_le (p : UInt8 → Bool) : ∀ l : T, span p l ≤ l.length
  | [] => Nat.le_refl _
  | c :: l => by
    unfold span
    split
    · have := span_le p l; simp; omega
    · simp
theorem span_append (p : UInt8 → Bool) : ∀ (x y : T), span p (x ++ y) = if span p x = x.length then x.length + span p y else span p x
  | [], y => by simp [span]
  | c :: x, y => by
    simp only [List.cons_append, span]
    have h := span_append p x y
    have h2 := span_le p x
    split
    · rw [h]
      by_cases e : span p x = x.length
      · simp [e]; omega
      · have : span p x + 1 ≠ (c :: x).length := by simpa using e
        simp [e]
    · simp
theorem span_zero {p : UInt8 → Bool} {y : T} (h : ∀ c, y.head? = some c → p c = false) : span p y = 0 := by
  cases y with
  | nil => rfl
  | cons c y => simp [span, h c rfl]
theorem span_head {p : UInt8 → Bool} {y : T} (h : span p y = 0) : ∀ c, y.head? = some c → p c = false := by
  cases y with
  | nil => intro c h; cases h
  | cons c y =>
    intro d hd
    simp at hd; subst hd
    simp only [span] at h
    cases hp : p c
    · rfl
    · rw [hp] at h; simp at h
/-- What may stand behind a token instead of what does. -/
def Ctx (y z : T) : Prop := sep z = true ∨ z.head? = y.head?
theorem sep_head {z : T} (h : sep z = true) {c : UInt8} (hc : z.head? = some c) : blank c = true := by
  cases z with
  | nil => cases hc
  | cons d z => simp at hc; subst hc; exact h
theorem span_ctx {p : UInt8 → Bool} (hp : ∀ c, blank c = true → p c = false) {x y z : T} (h : span p (x ++ y) = x.length) (hz : Ctx y z) : span p (x ++ z) = x.length := by
  have h1 := span_append p x y
  rw [h] at h1
  have hx : span p x = x.length ∧ span p y = 0 := by
    split at h1
    · rename_i e; exact ⟨e, by omega⟩
    · exact ⟨h1.symm, absurd h1.symm (by assumption)⟩
  rw [span_append, if_pos hx.1, span_zero (p := p) (y := z)]
  · rfl
  · intro c hc
    rcases hz with hz | hz
    · exact hp c (sep_head hz hc)
    · exact span_head hx.2 c (hz ▸ hc)
theorem blank_cases {c : UInt8} (h : blank c = true) : c = 32 ∨ c = 9 ∨ c = 10 ∨ c = 13 := by
  simp only [blank, Bool.or_eq_true, beq_iff_eq] at h
  exact h
theorem blank_word {c : UInt8} (h : blank c = true) : wordB c = false := by
  rcases blank_cases h with rfl | rfl | rfl | rfl <;> decide
theorem blank_digit {c : UInt8} (h : blank c = true) : digit c = false := by
  rcases blank_cases h with rfl | rfl | rfl | rfl <;> decide
theorem blank_tyv {c : UInt8} (h : blank c = true) : tyvB c = false := by
  rcases blank_cases h with rfl | rfl | rfl | rfl <;> decide
theorem blank_62 {c : UInt8} (h : blank c = true) : c ≠ 62 ∧ c ≠ 42 := by
  rcases blank_cases h with rfl | rfl | rfl | rfl <;> decide
def oneMark (c : UInt8) : Bool := c == 58 || (c == 61 || c == 45)
theorem two_eq (c : UInt8) (r : T) : two (c :: r) = (oneMark c && (r.head? == some 62)) := by
  cases r with
  | nil => unfold two; simp
  | cons d r =>
    by_cases h1 : c = 58
    · subst h1
      by_cases h2 : d = 62
      · subst h2; simp [two, oneMark]
      · unfold two; simp [h2, oneMark]
    · by_cases h3 : c = 61
      · subst h3
        by_cases h2 : d = 62
        · subst h2; simp [two, oneMark]
        · unfold two; simp [h2, oneMark]
      · by_cases h4 : c = 45
        · subst h4
          by_cases h2 : d = 62
          · subst h2; simp [two, oneMark]
          · unfold two; simp [h2, oneMark]
        · unfold two; simp [h1, h3, h4, oneMark]
theorem opens_eq (c : UInt8) (r : T) : opens (c :: r) = (c == 40 && (r.head? == some 42)) := by
  cases r with
  | nil => unfold opens; simp
  | cons d r =>
    by_cases h1 : c = 40
    · subst h1
      by_cases h2 : d = 42
      · subst h2; simp [opens]
      · unfold opens; simp [h2]
    · unfold opens; simp [h1]
theorem two_ctx {c : UInt8} {y z : T} (h : two (c :: y) = false) (hz : Ctx y z) : two (c :: z) = false := by
  rw [two_eq] at h ⊢
  rcases hz with hz | hz
  · cases hm : z.head? with
    | none => simp
    | some d => have := blank_62 (sep_head hz hm); simp [this.1]
  · rw [hz]; exact h
theorem opens_ctx {x y z : T} (hx : x ≠ []) (h : opens (x ++ y) = false) (hz : Ctx y z) : opens (x ++ z) = false := by
  match x, hx with
  | [c], _ =>
    simp only [List.cons_append, List.nil_append] at h ⊢
    rw [opens_eq] at h ⊢
    rcases hz with hz | hz
    · cases hm : z.head? with
      | none => simp
      | some d => have := blank_62 (sep_head hz hm); simp [this.2]
    · rw [hz]; exact h
  | c :: d :: r, _ => rw [opens_two (by simp)] at h ⊢; exact h
variable {res : T → Bool}
theorem one_bound {l : T} {k n v : Nat} (h : one res l = .ok (k, n, v)) : 1 ≤ n ∧ n ≤ l.length ∧ 1 ≤ k ∧ k ≤ 6 ∧ (k ≠ 4 → v = 0) := by
  cases l with
  | nil => simp [one] at h
  | cons c r =>
    unfold one at h
    simp only at h
    split at h
    · rename_i hc
      split at h
      · cases h
      · injection h with h; injection h with h1 h; injection h with h2 h3
        subst h1 h2 h3
        have hw : wordB c = true := by unfold wordB; rw [Bool.or_eq_true] at hc; rcases hc with hc | hc <;> simp [hc]
        have h1 : span wordB (c :: r) = span wordB r + 1 := by simp [span, hw]
        have h2 := span_le wordB (c :: r)
        refine ⟨by omega, h2, ?_, ?_, fun _ => rfl⟩ <;> (split <;> (try split) <;> omega)
    · split at h
      · rename_i hc
        split at h
        · cases h
        · injection h with h; injection h with h1 h; injection h with h2 h3
          subst h1 h2 h3
          have h1 : span digit (c :: r) = span digit r + 1 := by simp [span, hc]
          have h2 := span_le digit (c :: r)
          exact ⟨by omega, h2, by omega, by omega, fun h => absurd rfl h⟩
      · split at h
        · split at h
          · cases h
          · split at h
            · cases h
            · injection h with h; injection h with h1 h; injection h with h2 h3
              subst h1 h2 h3
              have h2 := span_le tyvB r
              exact ⟨by omega, by simp; omega, by omega, by omega, fun _ => rfl⟩
        · split at h
          · rename_i ht
            injection h with h; injection h with h1 h; injection h with h2 h3
            subst h1 h2 h3
            rw [two_eq] at ht
            cases r with
            | nil => simp at ht
            | cons d r => simp
          · split at h
            · injection h with h; injection h with h1 h; injection h with h2 h3
              subst h1 h2 h3
              simp
            · cases h
/-- A token does not look farther than at the next byte. -/
theorem one_ctx {x y z : T} {k v : Nat} (h : one res (x ++ y) = .ok (k, x.length, v)) (hz : Ctx y z) : one res (x ++ z) = .ok (k, x.length, v) := by
  cases x with
  | nil => have := (one_bound h).1; simp at this
  | cons c x =>
    rw [List.cons_append] at h ⊢
    unfold one at h ⊢
    simp only at h ⊢
    split at h
    · rename_i hc
      rw [if_pos hc]
      split at h
      · cases h
      · rename_i h32
        injection h with h; injection h with h1 h; injection h with h2 h3
        have e1 : span wordB (c :: (x ++ y)) = (c :: x).length := h2
        have e2 : span wordB (c :: (x ++ z)) = (c :: x).length := span_ctx (x := c :: x) (fun _ => blank_word) e1 hz
        have t1 : ∀ q : T, (c :: (x ++ q)).take (c :: x).length = c :: x := fun q => by rw [← List.cons_append]; simp
        rw [e1, t1] at h1
        rw [e1] at h32
        rw [e2, t1, if_neg h32, h1, h3]
    · rename_i hc
      rw [if_neg hc]
      split at h
      · rename_i hd
        rw [if_pos hd]
        split at h
        · cases h
        · rename_i u hu
          injection h with h; injection h with h1 h; injection h with h2 h3
          have e1 : span digit (c :: (x ++ y)) = (c :: x).length := h2
          have e2 : span digit (c :: (x ++ z)) = (c :: x).length := span_ctx (x := c :: x) (fun _ => blank_digit) e1 hz
          have t1 : ∀ q : T, (c :: (x ++ q)).take (c :: x).length = c :: x := fun q => by rw [← List.cons_append]; simp
          rw [e1, t1] at hu
          rw [e2, t1, hu]
          simp [h1, h3]
      · rename_i hd
        rw [if_neg hd]
        split at h
        · rename_i hq
          rw [if_pos hq]
          split at h
          · cases h
          · rename_i hl
            split at h
            · cases h
            · rename_i h32
              injection h with h; injection h with h1 h; injection h with h2 h3
              have e1 : span tyvB (x ++ y) = x.length := by simpa using h2
              have e2 : span tyvB (x ++ z) = x.length := span_ctx (fun _ => blank_tyv) e1 hz
              have hxn : x ≠ [] := by
                rintro rfl
                simp only [List.nil_append, List.length_nil] at e1 hl
                have := span_head e1
                cases y with
                | nil => simp at hl
                | cons d y =>
                  simp at hl
                  have := this d rfl
                  simp [tyvB, hl] at this
              have hh : ∀ q : T, (x ++ q).head? = x.head? := fun q => by cases x with | nil => exact absurd rfl hxn | cons => rfl
              rw [hh] at hl
              rw [hh, if_neg hl, e2]
              rw [e1] at h32
              rw [if_neg h32]
              simp [h1, h3]
        · rename_i hq
          rw [if_neg hq]
          split at h
          · rename_i ht
            injection h with h; injection h with h1 h; injection h with h2 h3
            match x, h2 with
            | [d], _ =>
              have : two (c :: ([d] ++ z)) = two (c :: ([d] ++ y)) := by rw [two_eq, two_eq]; simp
              rw [if_pos (this.trans ht)]
              simp [h1, h3]
          · rename_i ht
            split at h
            · rename_i hm
              injection h with h; injection h with h1 h; injection h with h2 h3
              match x, h2 with
              | [], _ =>
                simp only [List.nil_append] at ht ⊢
                have := two_ctx (Bool.eq_false_iff.2 ht) hz
                rw [if_neg (by rw [this]; decide), if_pos hm]
                simp [h1, h3]
            · cases h
variable (res)
/-- A text in pieces. -/
inductive Pieces : T → Nat → List Tok → Prop
  | nil {l a} : Blk l → Pieces l a []
  | cons {b x l : T} {a k v : Nat} {ts : List Tok} : Blk b → one res (x ++ l) = .ok (k, x.length, v) → (∀ c, (x ++ l).head? = some c → blank c = false) → opens (x ++ l) = false →
      Pieces l (a + b.length + x.length) ts → Pieces (b ++ (x ++ l)) a (⟨k, x, v, a + b.length⟩ :: ts)
variable {res}
theorem lx_pieces : ∀ {l : T} {a cnt : Nat} {ts : List Tok}, cnt ≤ 1024 → lx res l a cnt = .ok ts → Pieces res l a ts ∧ cnt + ts.length ≤ 1024 := by
  intro l
  induction h : l.length using Nat.strongRecOn generalizing l with
  | ind m ih =>
    intro a cnt ts hc hl
    rw [lx_eq] at hl
    split at hl
    · cases hl
    · rename_i hs
      have hsb := skp_bound (l := l)
      have hblk := skp_blk (l := l)
      split at hl
      · rename_i hd
        injection hl with hl; subst hl
        rw [List.drop_eq_nil_iff] at hd
        rw [List.take_of_length_le hd] at hblk
        exact ⟨.nil hblk, by simpa using hc⟩
      · rename_i c r hd
        obtain ⟨hb, ho⟩ := skp_stop hs hd
        split at hl
        · cases hl
        · rename_i k n v h1
          split at hl
          · cases hl
          · rename_i hcn
            obtain ⟨b1, b2, _⟩ := one_bound h1
            cases hx : lx res (r.drop (n - 1)) (a + (skp l).1 + n) (cnt + 1) with
            | error e => rw [hx] at hl; cases hl
            | ok us =>
              rw [hx] at hl
              injection hl with hl; subst hl
              have hlen := congrArg List.length hd
              simp at hlen
              obtain ⟨q1, q2⟩ := ih (r.drop (n - 1)).length (by simp; omega) rfl (by omega) hx
              refine ⟨?_, by simp; omega⟩
              rw [drop_pred c r (by omega)] at q1
              have e1 : ((c :: r).take n).length = n := by rw [List.length_take]; omega
              have e2 : (l.take (skp l).1).length = (skp l).1 := by rw [List.length_take]; omega
              have e3 : (c :: r).take n ++ (c :: r).drop n = c :: r := List.take_append_drop ..
              have := Pieces.cons (res := res) (b := l.take (skp l).1) (x := (c :: r).take n) (l := (c :: r).drop n) (a := a) (k := k) (v := v) (ts := us) hblk
                (by rw [e3, e1]; exact h1) (by rw [e3]; intro d hd2; simp at hd2; subst hd2; exact hb) (by rw [e3]; exact ho) (by rw [e1, e2]; exact q1)
              rw [e3, e2] at this
              rw [← hd, List.take_append_drop, hd] at this
              exact this
theorem Pieces.blk {b m : T} {a : Nat} {ts : List Tok} (hb : Blk b) (h : Pieces res m (a + b.length) ts) : Pieces res (b ++ m) a ts := by
  cases h with
  | nil hm => exact .nil (hb.append hm)
  | @cons b2 x l _ k v ts h2 h1 hh ho hr =>
    have := Pieces.cons (res := res) (a := a) (b := b ++ b2) (hb.append h2) h1 hh ho (by rw [List.length_append, ← Nat.add_assoc]; exact hr)
    rw [List.append_assoc, List.length_append, ← Nat.add_assoc] at this
    exact this
theorem head_append {l m : T} (hm : sep m = true) : Ctx l (l ++ m) := by
  cases l with
  | nil => exact .inl hm
  | cons c l => exact .inr rfl
theorem head_tok {x l z : T} {k v : Nat} (h1 : one res (x ++ l) = .ok (k, x.length, v)) (hh : ∀ c, (x ++ l).head? = some c → blank c = false) : (∀ c, (x ++ z).head? = some c → blank c = false) ∧ x ≠ [] := by
  cases x with
  | nil => have := (one_bound h1).1; simp at this
  | cons d x => exact ⟨fun c hc => hh c hc, by simp⟩
/-- Two texts one behind the other, where the second begins with a blank. -/
theorem Pieces.append {l m : T} {a : Nat} {ts us : List Tok} (h : Pieces res l a ts) (hs : sep m = true) (k : Pieces res m (a + l.length) us) : Pieces res (l ++ m) a (ts ++ us) := by
  induction h with
  | nil hb => exact k.blk hb
  | @cons b x l a kk v ts hb h1 hh ho _ ih =>
    have hc := head_append (l := l) hs
    have := ih (by rw [List.length_append, List.length_append, ← Nat.add_assoc, ← Nat.add_assoc] at k; exact k)
    have hht := head_tok (z := l ++ m) h1 hh
    have r := Pieces.cons hb (one_ctx h1 hc) hht.1 (opens_ctx hht.2 ho hc) this
    simpa [List.append_assoc] using r
def key (t : Tok) : Nat × T × Nat := (t.kind, t.text, t.n)
/-- Tokens stand elsewhere, where their text does. -/
theorem Pieces.shift {l : T} {a : Nat} {ts : List Tok} (h : Pieces res l a ts) (b : Nat) : ∃ us, Pieces res l b us ∧ us.map key = ts.map key := by
  induction h generalizing b with
  | nil hb => exact ⟨[], .nil hb, rfl⟩
  | @cons bb x l a kk v ts hb h1 hh ho _ ih =>
    obtain ⟨us, q1, q2⟩ := ih (b + bb.length + x.length)
    exact ⟨_, .cons hb h1 hh ho q1, by simp [key, q2]⟩
/-- Blanks put ahead of a token, and at the end. -/
theorem Pieces.put {l : T} {a : Nat} {ts : List Tok} (h : Pieces res l a ts) {p : T} (hp : Blk p) (hs : sep p = true) (hne : p ≠ []) : ∀ {i : Nat} {t : Tok}, ts[i]? = some t →
    ∃ us, Pieces res (l.take (t.at_ - a) ++ (p ++ (l.drop (t.at_ - a) ++ p))) a us ∧ us.map key = ts.map key ∧ a ≤ t.at_ := by
  induction h with
  | nil hb => intro i t h; simp at h
  | @cons b x l a k v ts hb h1 hh ho hr ih =>
    intro i t hi
    have hend : ∀ {m : T} {n : Nat} {vs : List Tok}, Pieces res m n vs → Pieces res (m ++ p) n vs := fun {m n vs} hm => by
      have := hm.append hs (Pieces.nil (res := res) (a := n + m.length) hp)
      rwa [List.append_nil] at this
    cases i with
    | zero =>
      simp at hi; subst hi
      obtain ⟨us, q1, q2⟩ := (hend (Pieces.cons (b := []) (a := 0) .nil h1 hh ho (by simpa using (hr.shift _).choose_spec.1))).shift (a + b.length + p.length)
      refine ⟨us, ?_, ?_, by simp⟩
      · have e1 : (b ++ (x ++ l)).take (a + b.length - a) = b := by rw [Nat.add_sub_cancel_left]; simp
        have e2 : (b ++ (x ++ l)).drop (a + b.length - a) = x ++ l := by rw [Nat.add_sub_cancel_left]; simp
        simp only [e1, e2]
        exact (Pieces.blk hp (by simpa using q1)).blk hb
      · rw [q2]
        have := (hr.shift (0 + b.length)).choose_spec
        simp only [List.map_cons, List.cons.injEq]
        refine ⟨rfl, ?_⟩
        exact (hr.shift _).choose_spec.2
    | succ i =>
      simp only [List.getElem?_cons_succ] at hi
      obtain ⟨us, q1, q2, q3⟩ := ih hi
      obtain ⟨d, hd⟩ : ∃ d, t.at_ = a + b.length + x.length + d := ⟨t.at_ - (a + b.length + x.length), by omega⟩
      have e0 : t.at_ - (a + b.length + x.length) = d := by omega
      rw [e0] at q1
      have e1 : t.at_ - a = (b ++ x).length + d := by simp; omega
      have f1 : (b ++ (x ++ l)).take (t.at_ - a) = b ++ (x ++ l.take d) := by rw [e1, ← List.append_assoc, List.take_length_add_append, List.append_assoc]
      have f2 : (b ++ (x ++ l)).drop (t.at_ - a) = l.drop d := by rw [e1, ← List.append_assoc, List.drop_length_add_append]
      have hc : Ctx l (l.take d ++ (p ++ (l.drop d ++ p))) := by
        cases d with
        | zero =>
          left
          cases p with
          | nil => exact absurd rfl hne
          | cons c p => exact hs
        | succ d =>
          cases l with
          | nil => left; cases p with
            | nil => rfl
            | cons c p => exact hs
          | cons c l => right; rfl
      have hht := head_tok (z := l.take d ++ (p ++ (l.drop d ++ p))) h1 hh
      have r := Pieces.cons hb (one_ctx h1 hc) hht.1 (opens_ctx hht.2 ho hc) q1
      refine ⟨⟨k, x, v, a + b.length⟩ :: us, ?_, ?_, by omega⟩
      · rw [f1, f2]
        simpa [List.append_assoc] using r
      · simp [key, q2]
end Go.Lx
end

section
/- LEX, plain: digits and their value; marks. -/
set_option linter.unusedVariables false
set_option linter.unusedSimpArgs false
namespace Go.Lx
theorem digit_toNat {c : UInt8} : digit c = true ↔ 48 ≤ c.toNat ∧ c.toNat ≤ 57 := by
  simp only [digit, Bool.and_eq_true, decide_eq_true_eq, UInt8.le_iff_toNat_le]
  rfl
theorem span_all {p : UInt8 → Bool} : ∀ {l : T}, ∀ c ∈ l.take (span p l), p c = true
  | [], c, h => by simp [span] at h
  | d :: l, c, h => by
    simp only [span] at h
    split at h
    · rename_i hd
      simp only [List.take_succ_cons, List.mem_cons] at h
      rcases h with rfl | h
      · exact hd
      · exact span_all c h
    · simp at h
theorem num_le : ∀ {l : T} {v u : Nat}, v ≤ 9223372036854775807 → numFrom v l = some u → u ≤ 9223372036854775807
  | [], v, u, hv, h => by simp [numFrom] at h; omega
  | c :: l, v, u, hv, h => by
    unfold numFrom at h
    split at h
    · exact num_le (by omega) h
    · cases h
theorem parseM_ge : ∀ {l : T} {v u : Nat}, Lib.parseUintM (2 ^ 64 - 1) v l = .ok u → v ≤ u
  | [], v, u, h => by simp [Lib.parseUintM] at h; omega
  | c :: l, v, u, h => by
    unfold Lib.parseUintM at h
    split at h
    · split at h
      · cases h
      · split at h
        · cases h
        · have := parseM_ge h; omega
    · cases h
theorem parseM_dig : ∀ {l : T} {v : Nat}, (∀ c ∈ l, digit c = true) → Lib.parseUintM (2 ^ 64 - 1) v l = .range ∨ ∃ u, Lib.parseUintM (2 ^ 64 - 1) v l = .ok u
  | [], v, hd => .inr ⟨v, by simp [Lib.parseUintM]⟩
  | c :: l, v, hd => by
    have hc := digit_toNat.1 (hd c (by simp))
    unfold Lib.parseUintM
    rw [if_pos hc]
    split
    · exact .inl rfl
    · split
      · exact .inl rfl
      · exact parseM_dig fun d hd' => hd d (by simp [hd'])
theorem parseM_num : ∀ {l : T} {v : Nat}, (∀ c ∈ l, digit c = true) → v ≤ 9223372036854775807 →
    (∀ u, numFrom v l = some u → Lib.parseUintM (2 ^ 64 - 1) v l = .ok u) ∧ (numFrom v l = none → ∀ u, Lib.parseUintM (2 ^ 64 - 1) v l = .ok u → 9223372036854775808 ≤ u)
  | [], v, hd, hv => ⟨fun u h => by simp [numFrom] at h; simp [Lib.parseUintM, h], fun h u _ => by simp [numFrom] at h⟩
  | c :: l, v, hd, hv => by
    have hc := digit_toNat.1 (hd c (by simp))
    have hl : ∀ d ∈ l, digit d = true := fun d h => hd d (by simp [h])
    unfold numFrom Lib.parseUintM
    rw [if_pos hc]
    by_cases h1 : 10 * v + (c.toNat - 48) ≤ 9223372036854775807
    · rw [if_pos h1, if_neg (by omega), if_neg (by omega)]
      have e : v * 10 + (c.toNat - 48) = 10 * v + (c.toNat - 48) := by omega
      rw [e]
      exact parseM_num hl h1
    · rw [if_neg h1]
      refine ⟨fun u h => (by cases h), fun _ u h => ?_⟩
      split at h
      · cases h
      · split at h
        · cases h
        · have := parseM_ge h; omega
theorem parse_num {l : T} (hn : l ≠ []) (hd : ∀ c ∈ l, digit c = true) : Lib.parseIntB 64 l = match numFrom 0 l with
    | some v => .ok (v : Int)
    | none => .range := by
  cases l with
  | nil => exact absurd rfl hn
  | cons c l =>
    have hc := digit_toNat.1 (hd c (by simp))
    have h43 : ¬ (c.toNat = 43 ∨ c.toNat = 45) := by omega
    have h45 : ¬ (c.toNat = 45) := by omega
    have hp := parseM_num (v := 0) hd (by omega)
    have hs := parseM_dig (v := 0) hd
    unfold Lib.parseIntB
    simp only [if_neg h43]
    have hu : Lib.parseUintB 64 (c :: l) = Lib.parseUintM (2 ^ 64 - 1) 0 (c :: l) := by unfold Lib.parseUintB; rw [if_neg (by simp)]
    rw [hu]
    cases hq : numFrom 0 (c :: l) with
    | some v =>
      rw [hp.1 v hq]
      have := num_le (by omega) hq
      simp only [h45]
      rw [if_neg (by simp; omega), if_neg (by simp)]
      simp
    | none =>
      rcases hs with hm | ⟨u, hm⟩
      · rw [hm]
      · rw [hm]
        have := hp.2 hq u hm
        simp only [h45]
        rw [if_pos ⟨by simp, by simpa using this⟩]
end Go.Lx
end
