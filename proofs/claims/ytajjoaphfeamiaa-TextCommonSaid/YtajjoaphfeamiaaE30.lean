/-
  THE ENGINE, part 30: contracts of functions (of Go's library) that stand in place of their code: plain answers out of plain arguments.
-/
import Derived.Test.YtajjoaphfeamiaaQ2
import Derived.Test.YtajjoaphfeamiaaQ3
import Derived.Lib.ParseIntB
import Derived.Lib.Join
import Derived.Lib.Bytealg
set_option linter.unusedVariables false
set_option linter.unusedSimpArgs false
namespace Go.Eng
open Go.RowKit

abbrev PExt := FuncId → Option (List AV → Option AV)
def PExt.ext (g : PExt) : Ext := fun f => (g f).map fun e args H => (e args).map fun v => (Out.ret v, H)

structure PSound (P : Program) (I0 : Mem) (g : PExt) : Prop where
  sound : ∀ f e, g f = some e → ∀ args v, e args = some v → ∀ I μ w cargs, LeM I0 I → ImmOk I w → RepL I μ cargs args →
    Calls P f cargs.toArray w fun e' w' => ∃ v', e' = .returned v' ∧ Rep I μ v' v ∧ NoOwn v ∧ Below w.heap.size w w'
  ren : ∀ f e, g f = some e → ∀ args v, e args = some v → ∀ ρ : Nat → Nat, e (args.map (AV.ren ρ)) = some (v.ren ρ)

theorem below_eff {w w' : World} (h : Below w.heap.size w w') (I : Mem) (A : Nat → Prop) : Eff I w A I w' :=
  ⟨.refl I, fun _ _ _ h => .inl h, fun b hb _ => h.block b hb, h.size, h.os, h.tape, h.output⟩

theorem below_imm {I : Mem} {w w' : World} (h : Below w.heap.size w w') (hI : ImmOk I w) : ImmOk I w' := by
  intro b o v hv
  have h1 := hI b o v hv
  have hb := hI.lt hv
  refine ⟨?_, h1.2⟩
  have h2 := h1.1
  unfold World.cell? at h2 ⊢
  rw [h.block b hb]; exact h2

theorem PSound.ext {P : Program} {I0 : Mem} {g : PExt} (h : PSound P I0 g) : ExtSound P I0 g.ext := by
  intro f e he args H out H' heq I μ HV w cargs hI hh hr hs h1
  unfold PExt.ext at he
  rw [Option.map_eq_some_iff] at he
  obtain ⟨e0, he0, rfl⟩ := he
  rw [Option.map_eq_some_iff] at heq
  obtain ⟨v, hv, heq⟩ := heq
  injection heq with e1 e2
  subst e1 e2
  refine (h.sound f e0 he0 args v hv I μ w cargs hI hh.imm hr).mono ?_
  rintro e' w' ⟨v', rfl, r1, r2, r3⟩
  have heff := fun A => below_eff r3 I A
  have himm := below_imm r3 hh.imm
  refine ⟨I, μ, HV, hh.eff (heff fun _ => False) himm fun _ h => h.elim, heff _, .refl μ, ⟨v', rfl, r1, r2.spare w' v'⟩, fun b => ?_, fun b hb => ?_⟩
  · have := h1 b
    simp only [outTok, r2.tc]
    unfold argTok at this
    omega
  · left
    simp only [outTok, r2.tc] at hb
    unfold argTok
    omega

theorem PSound.extR {P : Program} {I0 : Mem} {g : PExt} (h : PSound P I0 g) {ρ : Nat → Nat} {n N : Nat} {F : Heap} : ExtR ρ n N F g.ext := by
  intro f e he args H out H' heq K hK
  unfold PExt.ext at he
  rw [Option.map_eq_some_iff] at he
  obtain ⟨e0, he0, rfl⟩ := he
  rw [Option.map_eq_some_iff] at heq
  obtain ⟨v, hv, heq⟩ := heq
  injection heq with e1 e2
  subst e1 e2
  exact ⟨K, by simp only [h.ren f e0 he0 args v hv ρ, Option.map_some, renOut], hK⟩

/-! ### contracts of the library's functions -/

/-- A law's own check of examples. -/
def xTrue : List AV → Option AV
  | [] => some (.val (.bool true))
  | _ => none

def xIndexByte : List AV → Option AV
  | [.val (.string s), .val (.int .u8 c)] => if 0 ≤ c ∧ c < 256 then some (.val (.int .i64 (Lib.indexByte s.data.toList c.toNat.toUInt8))) else none
  | _ => none

def xParseInt (te : TypeId) : List AV → Option AV
  | [.val (.string s), .val (.int .i64 10), .val (.int .i64 64)] => if s.size ≤ 281474976710656 then match Lib.parseIntB 64 s.data.toList with
      | .ok v => some (.tuple [.val (.int .i64 v), .val .nilIface])
      | .range => some (.tuple [.val (.int .i64 (Lib.intSat 64 s.data.toList)), .iface te .any])
      | _ => none
    else none
  | _ => none

def strsOf : List (List AV) → Option (List ByteArray)
  | [] => some []
  | [.val (.string s)] :: r => (strsOf r).map (s :: ·)
  | _ :: _ => none

def xJoin : List AV → Option AV
  | [.slice _ rows _, .val (.string sep)] => match strsOf rows with
    | some xs => if xs.length ≤ 140737488355328 ∧ (Lib.join (xs.map (·.data.toList)) sep.data.toList).length ≤ 140737488355328 then
        some (.val (.string ⟨(Lib.join (xs.map (·.data.toList)) sep.data.toList).toArray⟩)) else none
    | none => none
  | _ => none

theorem strsOf_ren (ρ : Nat → Nat) : ∀ {rows : List (List AV)} {xs : List ByteArray}, strsOf rows = some xs → strsOf (renss ρ rows) = some xs
  | [], xs, h => h
  | r :: rows, xs, h => by
    unfold strsOf at h
    split at h
    · rename_i e; cases e
    · rename_i s r' e
      injection e with e1 e2
      subst e1 e2
      rw [Option.map_eq_some_iff] at h
      obtain ⟨ys, hy, rfl⟩ := h
      have := strsOf_ren ρ hy
      simp [renss, rens, AV.ren, strsOf, this]
    · cases h

theorem strsOf_cells {I : Mem} {μ : List Nat} : ∀ {rows : List (List AV)} {xs : List ByteArray} {ws : List Value}, strsOf rows = some xs → RepL I μ ws rows.flatten → ws = xs.map .string ∧ rows.length = xs.length
  | [], xs, ws, h, hr => by
    simp [strsOf] at h; subst h
    cases hr; exact ⟨rfl, rfl⟩
  | r :: rows, xs, ws, h, hr => by
    unfold strsOf at h
    split at h
    · rename_i e; cases e
    · rename_i s r' e
      injection e with e1 e2
      subst e1 e2
      rw [Option.map_eq_some_iff] at h
      obtain ⟨ys, hy, rfl⟩ := h
      cases ws with
      | nil => cases hr
      | cons w ws =>
        simp only [List.flatten_cons, List.cons_append, List.nil_append] at hr
        obtain ⟨h1, h2⟩ := hr.uncons
        obtain ⟨q1, q2⟩ := strsOf_cells hy h2
        cases h1
        exact ⟨by simp [q1], by simp [q2]⟩
    · cases h
end Go.Eng
