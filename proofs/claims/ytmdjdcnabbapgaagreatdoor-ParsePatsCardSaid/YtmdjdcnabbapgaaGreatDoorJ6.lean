/- Texts of this proof folded into one: E18 E27 E28 E29. -/
import Derived.Test.YtmdjdcnabbapgaaGreatDoorJ5
import Derived.IntWalk
import Derived.ChangeArms
import Derived.ChangeSlices
import Derived.DataReads
section
/-
  THE ENGINE, part 18: what code comes to, told forward (WC, WO): one rule for each form of code and of operation.
-/
set_option linter.unusedVariables false
set_option linter.unusedSimpArgs false
namespace Go.Eng
/-- A guard's value. -/
def gval (dsts : List (Option Tmp)) (T : List AV) (j : Nat) : Option AV :=
  match dsts.getD j none with
  | none => some (.val undef)
  | some t => match T[t]? with
    | none => some (.val undef)
    | some v => some v
def wantedG (dsts : List (Option Tmp)) (o : Oper) (T : List AV) : Option Bool :=
  match o.guard with
  | none => some true
  | some (j, want) => match gval dsts T j with
    | some (.val (.bool b)) => some (b == want)
    | some (.val _) => some false
    | _ => none
section
variable (P : Program) (cfg : FuncId → FCfg) (call : CallF)
/-- Operations one behind the other; of each what it looked at. -/
def aopsC (f : FuncId) (dsts : List (Option Tmp)) : List Oper → List (Option Cls) → St → Option (AX × List (Option Cls) × St)
  | [], acc, s => some (.normal, acc, s)
  | o :: r, acc, s => match wantedG dsts o s.tmps with
    | some true => match aop P cfg call f o s with
      | some (.next s') => aopsC f dsts r (some (acls cfg f o (vals s.tmps o.op.operands.toList (moves cfg f o))) :: acc) s'
      | some (.panic v s') => some (.panic v, some (acls cfg f o (vals s.tmps o.op.operands.toList (moves cfg f o))) :: acc, s')
      | none => none
    | some false => aopsC f dsts r (none :: acc) { s with tmps := putT s.tmps o.dst (.val undef) }
    | none => none
def sR (f : FuncId) (dsts : List (Option Tmp)) (o : Oper) (c : Option Cls) : Nat :=
  tmpBits o.op.operands.toList ||| optBit (match o.guard with | none => none | some (j, _) => dsts.getD j none) |||
    match c with
    | some .pure => 0
    | some (.loc l _) => 2 ^ (2 * l + 1)
    | some (.glob _) => 1
    | none => 0
def sW (f : FuncId) (o : Oper) (c : Option Cls) : Nat :=
  optBit o.dst ||| listBits (movedTmps o.op.operands.toList (moves cfg f o)) |||
    match c with
    | some (.loc l true) => 2 ^ (2 * l + 1)
    | some (.glob true) => 1
    | _ => 0
/-- May a drawn region's operations be told in the text's order? -/
def checkD (f : FuncId) (dsts : List (Option Tmp)) : List Oper → List (Option Cls) → (i : Nat) → (ancs : List Nat) → (foot : List (Nat × Nat)) → Bool
  | o :: r, c :: cl, i, ancs, foot =>
    edgesDown i o.after.toList && apartFrom (ancBits ancs o.after.toList) (sR f dsts o c) (sW cfg f o c) 0 foot &&
      checkD f dsts r cl (i + 1) (ancs ++ [ancBits ancs o.after.toList]) (foot ++ [(sR f dsts o c, sW cfg f o c)])
  | _, _, _, _, _ => true
def kNo : CallF := fun _ _ _ _ => none
/-- Likewise where the last of them gave up: the others that may stand ahead of it go on. -/
def checkP (f : FuncId) (ops : Array Oper) (dsts : List (Option Tmp)) (v : AV) : List Oper → List (Option Cls) → (i : Nat) → (ancs : List Nat) → (foot : List (Nat × Nat)) → St → Option (AV × St)
  | o :: r, c :: cl, i, ancs, foot, s =>
    match edgesDown i o.after.toList && apartFrom (ancBits ancs o.after.toList) (sR f dsts o c) (sW cfg f o c) 0 foot with
    | false => none
    | true => match cl with
      | [] => match (sR f dsts o c).testBit 0 && (sW cfg f o c).testBit 0 with
        | true => adrawP P cfg kNo f ops (some (i, v)) r (i + 1) (ancs ++ [ancBits ancs o.after.toList]) (foot ++ [(sR f dsts o c, sW cfg f o c)]) s
        | false => none
      | c2 :: cl2 => checkP f ops dsts v r (c2 :: cl2) (i + 1) (ancs ++ [ancBits ancs o.after.toList]) (foot ++ [(sR f dsts o c, sW cfg f o c)]) s
  | _, _, _, _, _, _ => none
def WC (f : FuncId) (b : Nat) (c : Code) (Q : AX → St → Prop) (s : St) : Prop := ∃ x s', codeE P cfg call f b c s = some (x, s') ∧ Q x s'
end
section
variable {P : Program} {cfg : FuncId → FCfg} {call : CallF} {f : FuncId}
theorem wantedG_eq (ops : Array Oper) (o : Oper) (T : List AV) : wantedG (ops.toList.map (·.dst)) o T = wantedA ops o T := by
  unfold wantedG wantedA
  cases hg : o.guard with
  | none => rfl
  | some p =>
    obtain ⟨j, want⟩ := p
    simp only [gval]
    have e : (ops.toList.map (·.dst)).getD j none = (ops[j]?).bind (·.dst) := by
      rw [List.getD_eq_getElem?_getD, List.getElem?_map, Array.getElem?_toList]
      cases ops[j]? <;> rfl
    rw [e]
    cases (ops[j]?).bind (·.dst) with
    | none => rfl
    | some t =>
      simp only
      cases T[t]? with
      | none => rfl
      | some v =>
        cases v with
        | val u => cases u <;> rfl
        | _ => rfl
theorem aopsC_aops {ops : Array Oper} : ∀ (l : List Oper) (i : Nat) (acc : List (Option Cls)) (s : St) (x : AX) (acc' : List (Option Cls)) (s' : St), ops.toList.drop i = l → aopsC P cfg call f (ops.toList.map (·.dst)) l acc s = some (x, acc', s') →
    aops P cfg call f ops ((List.range ops.size).drop i) s = some (x, s') := by
  intro l
  induction l with
  | nil =>
    intro i acc s x acc' s' hl h
    simp only [aopsC, Option.some.injEq, Prod.mk.injEq] at h
    obtain ⟨rfl, _, rfl⟩ := h
    have : ops.toList.length ≤ i := List.drop_eq_nil_iff.1 hl
    rw [List.drop_of_length_le (by simpa using this)]; rfl
  | cons o r ih =>
    intro i acc s x acc' s' hl h
    have hi : i < ops.toList.length := by
      rcases Nat.lt_or_ge i ops.toList.length with h | h
      · exact h
      · rw [List.drop_of_length_le h] at hl; cases hl
    have hi' : i < ops.size := by simpa using hi
    rw [List.drop_eq_getElem_cons hi] at hl
    simp only [List.cons.injEq] at hl
    rw [List.drop_eq_getElem_cons (by simpa using hi')]
    simp only [List.getElem_range, aops]
    have ho : ops[i]? = some o := by rw [← Array.getElem?_toList, List.getElem?_eq_getElem hi, hl.1]
    simp only [ho, astep, ← wantedG_eq]
    simp only [aopsC] at h
    split at h
    · rename_i hw
      simp only [hw]
      split at h
      · rename_i e; simp only [e]; exact ih _ _ _ _ _ _ hl.2 h
      · rename_i e
        simp only [Option.some.injEq, Prod.mk.injEq] at h
        obtain ⟨rfl, _, rfl⟩ := h
        simp only [e]
      · cases h
    · rename_i hw
      simp only [hw]
      exact ih _ _ _ _ _ _ hl.2 h
    · cases h
theorem aopsC_acc {dsts : List (Option Tmp)} : ∀ (l : List Oper) (acc : List (Option Cls)) (s : St) (x : AX) (acc' : List (Option Cls)) (s' : St), aopsC P cfg call f dsts l acc s = some (x, acc', s') → ∃ new, acc' = new ++ acc ∧
    ∀ acc2, aopsC P cfg call f dsts l acc2 s = some (x, new ++ acc2, s') := by
  intro l
  induction l with
  | nil =>
    intro acc s x acc' s' h
    simp only [aopsC, Option.some.injEq, Prod.mk.injEq] at h
    obtain ⟨rfl, rfl, rfl⟩ := h
    exact ⟨[], rfl, fun _ => rfl⟩
  | cons o r ih =>
    intro acc s x acc' s' h
    simp only [aopsC] at h ⊢
    split at h
    · split at h
      · obtain ⟨new, e1, e2⟩ := ih _ _ _ _ _ h
        exact ⟨new ++ [some (acls cfg f o (vals s.tmps o.op.operands.toList (moves cfg f o)))], by rw [e1]; simp, fun acc2 => by rw [e2]; simp⟩
      · simp only [Option.some.injEq, Prod.mk.injEq] at h
        obtain ⟨rfl, rfl, rfl⟩ := h
        exact ⟨[_], rfl, fun _ => rfl⟩
      · cases h
    · obtain ⟨new, e1, e2⟩ := ih _ _ _ _ _ h
      exact ⟨new ++ [none], by rw [e1]; simp, fun acc2 => by rw [e2]; simp⟩
    · cases h
theorem aopsC_adraw {ops : Array Oper} : ∀ (l : List Oper) (i : Nat) (ancs : List Nat) (foot : List (Nat × Nat)) (s : St) (cl : List (Option Cls)) (s' : St), aopsC P cfg call f (ops.toList.map (·.dst)) l [] s = some (.normal, cl, s') →
    checkD cfg f (ops.toList.map (·.dst)) l cl.reverse i ancs foot = true → adraw P cfg call f ops l i ancs foot s = some s' := by
  intro l
  induction l with
  | nil =>
    intro i ancs foot s cl s' h _
    simp only [aopsC, Option.some.injEq, Prod.mk.injEq] at h
    obtain ⟨_, _, rfl⟩ := h
    rfl
  | cons o r ih =>
    intro i ancs foot s cl s' h hc
    have hgt : (match o.guard with | none => none | some (j, _) => (ops.toList.map (·.dst)).getD j none) = guardTmp ops o := by
      unfold guardTmp
      cases o.guard with
      | none => rfl
      | some p =>
        obtain ⟨j, want⟩ := p
        simp only [List.getD_eq_getElem?_getD, List.getElem?_map, Array.getElem?_toList]
        cases ops[j]? <;> rfl
    simp only [aopsC] at h
    split at h
    · rename_i hw
      split at h
      · rename_i s1 e
        obtain ⟨new, e1, e2⟩ := aopsC_acc _ _ _ _ _ _ h
        subst e1
        simp only [List.reverse_append, List.reverse_cons, List.reverse_nil, List.nil_append, List.cons_append, checkD, Bool.and_eq_true] at hc
        have h2 := e2 []
        simp only [List.append_nil] at h2
        have hR : footR cfg f ops o s = sR f (ops.toList.map (·.dst)) o (some (acls cfg f o (vals s.tmps o.op.operands.toList (moves cfg f o)))) := by
          unfold footR sR
          rw [hgt, ← wantedG_eq, hw]
          cases acls cfg f o (vals s.tmps o.op.operands.toList (moves cfg f o)) <;> rfl
        have hW : footW cfg f ops o s = sW cfg f o (some (acls cfg f o (vals s.tmps o.op.operands.toList (moves cfg f o)))) := by
          unfold footW sW
          rw [← wantedG_eq, hw]
          generalize acls cfg f o (vals s.tmps o.op.operands.toList (moves cfg f o)) = c
          cases c with
          | pure => rfl
          | loc l w => cases w <;> rfl
          | glob w => cases w <;> rfl
        simp only [adraw, hR, hW]
        rw [if_pos ⟨hc.1.1, hc.1.2⟩]
        simp only [astep, ← wantedG_eq, hw, e]
        exact ih _ _ _ _ _ _ h2 hc.2
      · simp at h
      · cases h
    · rename_i hw
      obtain ⟨new, e1, e2⟩ := aopsC_acc _ _ _ _ _ _ h
      subst e1
      simp only [List.reverse_append, List.reverse_cons, List.reverse_nil, List.nil_append, List.cons_append, checkD, Bool.and_eq_true] at hc
      have h2 := e2 []
      simp only [List.append_nil] at h2
      have hR : footR cfg f ops o s = sR f (ops.toList.map (·.dst)) o none := by
        unfold footR sR
        rw [hgt, ← wantedG_eq, hw]
      have hW : footW cfg f ops o s = sW cfg f o none := by
        unfold footW sW
        rw [← wantedG_eq, hw]
      simp only [adraw, hR, hW]
      rw [if_pos ⟨hc.1.1, hc.1.2⟩]
      simp only [astep, ← wantedG_eq, hw]
      exact ih _ _ _ _ _ _ h2 hc.2
    · cases h
theorem kNo_le : LeC kNo call := fun _ _ _ _ _ h => by cases h
theorem aopsC_ne {dsts : List (Option Tmp)} : ∀ (l : List Oper) (acc : List (Option Cls)) (s : St) (v : AV) (acc' : List (Option Cls)) (s' : St), aopsC P cfg call f dsts l acc s = some (.panic v, acc', s') → acc.length < acc'.length := by
  intro l
  induction l with
  | nil => intro acc s v acc' s' h; simp [aopsC] at h
  | cons o r ih =>
    intro acc s v acc' s' h
    simp only [aopsC] at h
    split at h
    · split at h
      · have := ih _ _ _ _ _ h; simp at this; omega
      · simp only [Option.some.injEq, Prod.mk.injEq] at h
        obtain ⟨_, rfl, _⟩ := h
        simp
      · cases h
    · have := ih _ _ _ _ _ h; simp at this; omega
    · cases h
theorem aopsC_adrawP {ops : Array Oper} : ∀ (l : List Oper) (i : Nat) (ancs : List Nat) (foot : List (Nat × Nat)) (s : St) (v : AV) (cl : List (Option Cls)) (s' : St) (r2 : AV × St), aopsC P cfg call f (ops.toList.map (·.dst)) l [] s = some (.panic v, cl, s') →
    checkP P cfg f ops (ops.toList.map (·.dst)) v l cl.reverse i ancs foot s' = some r2 → adrawP P cfg call f ops none l i ancs foot s = some r2 := by
  intro l
  induction l with
  | nil => intro i ancs foot s v cl s' r2 h _; simp [aopsC] at h
  | cons o r ih =>
    intro i ancs foot s v cl s' r2 h hc
    have hgt : (match o.guard with | none => none | some (j, _) => (ops.toList.map (·.dst)).getD j none) = guardTmp ops o := by
      unfold guardTmp
      cases o.guard with
      | none => rfl
      | some p =>
        obtain ⟨j, want⟩ := p
        simp only [List.getD_eq_getElem?_getD, List.getElem?_map, Array.getElem?_toList]
        cases ops[j]? <;> rfl
    simp only [aopsC] at h
    split at h
    · rename_i hw
      have hR : footR cfg f ops o s = sR f (ops.toList.map (·.dst)) o (some (acls cfg f o (vals s.tmps o.op.operands.toList (moves cfg f o)))) := by
        unfold footR sR
        rw [hgt, ← wantedG_eq, hw]
        cases acls cfg f o (vals s.tmps o.op.operands.toList (moves cfg f o)) <;> rfl
      have hW : footW cfg f ops o s = sW cfg f o (some (acls cfg f o (vals s.tmps o.op.operands.toList (moves cfg f o)))) := by
        unfold footW sW
        rw [← wantedG_eq, hw]
        generalize acls cfg f o (vals s.tmps o.op.operands.toList (moves cfg f o)) = c
        cases c with
        | pure => rfl
        | loc l w => cases w <;> rfl
        | glob w => cases w <;> rfl
      split at h
      · rename_i s1 e
        obtain ⟨new, e1, e2⟩ := aopsC_acc _ _ _ _ _ _ h
        have hlen := aopsC_ne _ _ _ _ _ _ h
        subst e1
        have h2 := e2 []
        simp only [List.append_nil] at h2
        simp only [List.reverse_append, List.reverse_cons, List.reverse_nil, List.nil_append, List.cons_append, checkP] at hc
        split at hc
        · cases hc
        · rename_i hok
          simp only [Bool.and_eq_true] at hok
          split at hc
          · rename_i hn
            have : new = [] := by simpa using hn
            subst this
            simp at hlen
          · rename_i c2 cl2 hn
            rw [← hn] at hc
            simp only [adrawP, behindP, hR, hW, hok.1, hok.2, astep, ← wantedG_eq, hw, e]
            exact ih _ _ _ _ _ _ _ _ h2 hc
      · rename_i v1 s1 e
        simp only [Option.some.injEq, Prod.mk.injEq, AX.panic.injEq] at h
        obtain ⟨rfl, rfl, rfl⟩ := h
        simp only [List.reverse_cons, List.reverse_nil, List.nil_append, checkP] at hc
        split at hc
        · cases hc
        · rename_i hok
          simp only [Bool.and_eq_true] at hok
          split at hc
          · rename_i hrw
            simp only [adrawP, behindP, hR, hW, hok.1, hok.2, astep, ← wantedG_eq, hw, e, hrw]
            exact adrawP_mono kNo_le hc
          · cases hc
      · cases h
    · rename_i hw
      obtain ⟨new, e1, e2⟩ := aopsC_acc _ _ _ _ _ _ h
      have hlen := aopsC_ne _ _ _ _ _ _ h
      subst e1
      have h2 := e2 []
      simp only [List.append_nil] at h2
      simp only [List.reverse_append, List.reverse_cons, List.reverse_nil, List.nil_append, List.cons_append, checkP] at hc
      have hR : footR cfg f ops o s = sR f (ops.toList.map (·.dst)) o none := by
        unfold footR sR
        rw [hgt, ← wantedG_eq, hw]
      have hW : footW cfg f ops o s = sW cfg f o none := by
        unfold footW sW
        rw [← wantedG_eq, hw]
      split at hc
      · cases hc
      · rename_i hok
        simp only [Bool.and_eq_true] at hok
        split at hc
        · rename_i hn
          have : new = [] := by simpa using hn
          subst this
          simp at hlen
        · rename_i c2 cl2 hn
          rw [← hn] at hc
          simp only [adrawP, behindP, hR, hW, hok.1, hok.2, astep, ← wantedG_eq, hw]
          exact ih _ _ _ _ _ _ _ _ h2 hc
    · cases h
/-! ### code -/
/-- The way on, where a part of code goes on at all. -/
def Then (K : St → Prop) (Q : AX → St → Prop) : AX → St → Prop
  | .normal, s => K s
  | x, s => Q x s
/-- A loop, by what holds at its head (behind the mask) and a measure. -/
theorem WC_loop {b : Nat} {c : Code} {Q : AX → St → Prop} {s : St} (I : Nat → St → Prop) (n : Nat) (h0 : ∃ s0, maskSt (liveAt (cfg f).live b) s = some s0 ∧ I n s0)
    (hr : ∀ n s, I n s → ∀ K : St → Prop, (∀ s' m, m < n → (∃ s0, maskSt (liveAt (cfg f).live b) s' = some s0 ∧ I m s0) → K s') → WC P cfg call f b c (Then K Q) s) : WC P cfg call f b (.loop c) Q s := by
  have key : ∀ n s, (∃ s0, maskSt (liveAt (cfg f).live b) s = some s0 ∧ I n s0) → ∃ x s', loopE (liveAt (cfg f).live b) (codeE P cfg call f b c) s = some (x, s') ∧ Q x s' := by
    intro n
    induction n using Nat.strongRecOn with
    | _ n ih =>
      intro s ⟨s0, hm, hI⟩
      obtain ⟨x, s1, h1, h2⟩ := hr n s0 hI (fun s' => ∃ m, m < n ∧ ∃ s0, maskSt (liveAt (cfg f).live b) s' = some s0 ∧ I m s0) (fun s' m hm h => ⟨m, hm, h⟩)
      cases x with
      | normal =>
        obtain ⟨m, hmn, h3⟩ := h2
        obtain ⟨y, s2, h4, h5⟩ := ih m hmn s1 h3
        exact ⟨y, s2, loopE_step hm h1 h4, h5⟩
      | exit id => exact ⟨_, s1, loopE_end hm h1 (by simp), h2⟩
      | ret => exact ⟨_, s1, loopE_end hm h1 (by simp), h2⟩
      | panic v => exact ⟨_, s1, loopE_end hm h1 (by simp), h2⟩
  obtain ⟨x, s', h1, h2⟩ := key n s h0
  exact ⟨x, s', by simpa only [codeE] using h1, h2⟩
/-! ### operations -/
variable {dsts : List (Option Tmp)} {r : List Oper} {acc : List (Option Cls)} {Q : List (Option Cls) → AX → St → Prop}
end
end Go.Eng
end

section
/-
  THE ENGINE, part 27: trees of the second kind (KT): calls that are gone into or asked, loops anywhere, deferred calls, panics.
-/
set_option linter.unusedVariables false
set_option linter.unusedSimpArgs false
namespace Go.Eng
/-- What a cell holds. -/
inductive KSh where
  | any
  | bool
  | int (k : IntKind)
  | str
  | slice (sz : Nat) (own : Own)
  | ref (l : List KSh)
  | agg (l : List KSh)
  | const (v : AV)
  | alt (a b : KSh)
  deriving Inhabited
/-- What a call answers. -/
inductive KRs where
  | one (c : KSh)
  | tup (l : List KSh)
  | agg (l : List KSh)
  | arg (i : Nat)
  deriving Inhabited
/-- How a call is told: gone into (cut: its blocks are let go); by what it answers, and panics with, and whether it may turn the heap. -/
inductive KM where
  | inl (cut : Bool)
  | keep
  | con (ret : Option KRs) (pan : Option (TypeId × KSh)) (heap : Bool)
  deriving Inhabited
inductive KT where
  | fail
  | done (s : St)
  | out (t : KT)
  | ret (r : CRes)
  | branch (b : Bool) (t f : KT)
  | need (b : Bool) (k : KT)
  | exI (k : Int → KT)
  | exB (k : Bool → KT)
  | exS (k : ByteArray → KT)
  | exR (k : List (List AV) → KT)
  | exA (k : AV → KT)
  | exY (k : UInt8 → KT)
  | row (rows : List (List AV)) (i : Int) (cells : List AV) (k : KT)
  | byte (s : ByteArray) (i : Int) (b : UInt8) (k : KT)
  | bytes (rows : List (List AV)) (s : ByteArray) (k : KT)
  | prop (p : Prop) (k : KT)
  | call (g : FuncId) (args : List AV) (rm : RM) (H : Heap) (r : CRes) (k : KT)
  | alt (t f : KT)
  | stage (t : KT) (k : St → KT)
  | loop (f : FuncId) (b : Nat) (x : Code) (s : St) (k : AX → St → KT)
section
variable (P : Program) (cfg : FuncId → FCfg) (call : CallF)
/-- What a tree means; QD: what is asked at the end of a round, of the innermost loop first. -/
def KT.wp (QD : List (St → Prop)) (QR : CRes → Prop) : KT → Prop
  | .fail => False
  | .done s => match QD with
    | Q :: _ => Q s
    | [] => False
  | .out t => match QD with
    | _ :: r => t.wp r QR
    | [] => False
  | .ret r => QR r
  | .branch b t f => (b = true → t.wp QD QR) ∧ (b = false → f.wp QD QR)
  | .need b k => b = true ∧ k.wp QD QR
  | .exI k => ∃ i, (k i).wp QD QR
  | .exB k => ∃ i, (k i).wp QD QR
  | .exS k => ∃ i, (k i).wp QD QR
  | .exR k => ∃ i, (k i).wp QD QR
  | .exA k => ∃ i, (k i).wp QD QR
  | .exY k => ∃ i, (k i).wp QD QR
  | .row rows i cells k => (0 ≤ i ∧ rows[i.toNat]? = some cells) ∧ k.wp QD QR
  | .byte s i b k => (0 ≤ i ∧ s[i.toNat]? = some b) ∧ k.wp QD QR
  | .bytes rows s k => bytesOfRows rows = some s.data.toList ∧ k.wp QD QR
  | .prop p k => p ∧ k.wp QD QR
  | .call g args rm H r k => call g args rm H = some r ∧ k.wp QD QR
  | .alt t f => t.wp QD QR ∨ f.wp QD QR
  | .stage t k => t.wp ((fun s => (k s).wp QD QR) :: QD) QR
  | .loop f b x s k => ∀ s1, maskSt (liveAt (cfg f).live b) s1 = some s → WC P cfg call f b (.loop x) (fun r s' => (k r s').wp QD QR) s1
end
def kclr (kn : Nat) : Option Tmp → Nat
  | some t => match kn.testBit t with
    | true => kn ^^^ 2 ^ t
    | false => kn
  | none => kn
def kknownOp (kn : Nat) : Operand → Bool
  | .tmp t => kn.testBit t
  | .const _ => true
  | _ => false
def kknownDst (o : Oper) (kn : Nat) (s : St) : Bool :=
  match o.op with
  | .move x => kknownOp kn x
  | .assign x => kknownOp kn x
  | .unOp _ _ x => kknownOp kn x
  | .binOp _ _ x y _ => kknownOp kn x && kknownOp kn y
  | .convert _ _ x => kknownOp kn x
  | .pick (.tmp t) a b => match kn.testBit t with
    | true => match s.tmps[t]? with
      | some (.val (.bool true)) => kknownOp kn a
      | some (.val (.bool false)) => kknownOp kn b
      | _ => false
    | false => false
  | _ => false
def kupd (kn : Nat) (o : Oper) (s : St) : Nat :=
  match kknownDst o kn s with
  | true => match o.dst with
    | some t => kn ||| 2 ^ t
    | none => kn
  | false => kclr kn o.dst
def ksetB (s : St) (t : Tmp) (b : Bool) : St := { s with tmps := s.tmps.set t (.val (.bool b)) }
/-- Cells of a shape, whatever they hold. -/
def kcell : KSh → (AV → KT) → KT
  | .any, k => .exA k
  | .bool, k => .exB fun b => k (.val (.bool b))
  | .int kd, k => .exI fun i => k (.val (.int kd i))
  | .str, k => .exS fun s => k (.val (.string s))
  | .slice sz own, k => .exR fun l => k (.slice sz l own)
  | .ref l, k => go l fun cs => k (.ref cs)
  | .agg l, k => go l fun cs => k (.agg cs)
  | .const v, k => k v
  | .alt a b, k => .alt (kcell a k) (kcell b k)
where go : List KSh → (List AV → KT) → KT
  | [], k => k []
  | c :: r, k => kcell c fun v => go r fun l => k (v :: l)
def kcells : List KSh → (List AV → KT) → KT
  | [], k => k []
  | c :: r, k => kcell c fun v => kcells r fun l => k (v :: l)
def kres (args : List AV) : KRs → (AV → KT) → KT
  | .one c, k => kcell c k
  | .tup l, k => kcells l fun cs => k (.tuple cs)
  | .agg l, k => kcells l fun cs => k (.agg cs)
  | .arg i, k => k (args.getD i .any)
/-- A heap's shape behind a call: that of its cells ahead of it. -/
def kshOf : AV → KSh
  | .val (.int k _) => .int k
  | .val (.bool _) => .bool
  | .val (.string _) => .str
  | .slice sz _ own => .slice sz own
  | v => .const v
/-- The cells of a type, by its form. -/
def tySh (P : Program) : Nat → TypeId → List KSh
  | 0, _ => []
  | n + 1, t => match P.underlying t with
    | some (.int k) => [.int k]
    | some .bool => [.bool]
    | some .string => [.str]
    | some (.slice e) => match size? P e with
      | some sz => [.slice sz .no]
      | none => [.any]
    | some (.struct fs) => (fs.toList.map fun f => tySh P n f.type).flatten
    | some (.array k e) => (List.replicate k (tySh P n e)).flatten
    | _ => [.any]
def rowSh (P : Program) (t : TypeId) : List KSh := tySh P 8 t
/-- What a type's value is. -/
def valSh (P : Program) (t : TypeId) : KSh :=
  match isAgg? P t with
  | some true => .agg (tySh P 8 t)
  | _ => match tySh P 8 t with
    | [c] => c
    | _ => .any
def resSh (P : Program) (f : FuncId) : KRs :=
  match P.funcs[f]? with
  | none => .tup []
  | some fn => match fn.resultTypes.toList with
    | [t] => .one (valSh P t)
    | l => .tup (l.map (valSh P))
def kheap : Heap → (Heap → KT) → KT
  | [], k => k []
  | b :: r, k => kcells (b.map kshOf) fun cs => kheap r fun H => k (cs :: H)
def kheap? (turn : Bool) (H : Heap) (k : Heap → KT) : KT :=
  match turn with
  | true => kheap H k
  | false => k H
/-- A call is asked. -/
def kask (ret : Option KRs) (pan : Option (TypeId × KSh)) (heap : Bool) (g : FuncId) (args : List AV) (rm : RM) (H : Heap) (k : CRes → KT) : KT :=
  let r := fun s => kres args s fun v => kheap? heap H fun H' => .call g args rm H ⟨.ret v, .none, H'⟩ (k ⟨.ret v, .none, H'⟩)
  let p := fun (p : TypeId × KSh) => kcell p.2 fun v => kheap? heap H fun H' => .call g args rm H ⟨.panic (.iface p.1 v), .none, H'⟩ (k ⟨.panic (.iface p.1 v), .none, H'⟩)
  match ret, pan with
  | some s, none => r s
  | none, some q => p q
  | some s, some q => .alt (r s) (p q)
  | none, none => .fail
/-- How a call is told: kn: which arguments are known; the answer: whether it is known. -/
abbrev KC := FuncId → List AV → Nat → RM → Heap → (CRes → Bool → KT) → KT
/-- Which operands are known, bit by bit from n on. -/
def kargs (kn : Nat) : Nat → List Operand → Nat
  | _, [] => 0
  | n, x :: r => match kknownOp kn x with
    | true => 2 ^ n ||| kargs kn (n + 1) r
    | false => kargs kn (n + 1) r
def kset (kn : Nat) (known : Bool) (d : Option Tmp) : Nat :=
  match known, d with
  | true, some t => kn ||| 2 ^ t
  | _, d => kclr kn d
section
variable (P : Program) (cfg : FuncId → FCfg) (rs : TypeId → List KSh) (kc : KC)
def kkwant (dsts : List (Option Tmp)) (o : Oper) (kn : Nat) (s : St) (k : Bool → Nat → St → KT) : KT :=
  match o.guard with
  | none => k true kn s
  | some (j, want) => match dsts.getD j none with
    | none => k false kn s
    | some t => match s.tmps[t]? with
      | none => k false kn s
      | some (.val (.bool b)) => match kn.testBit t with
        | true => match b with
          | true => k (true == want) kn s
          | false => k (false == want) kn s
        | false => .branch b (k (true == want) (kn ||| 2 ^ t) (ksetB s t true)) (k (false == want) (kn ||| 2 ^ t) (ksetB s t false))
      | some (.val _) => k false kn s
      | some _ => .fail
def kkap (f : FuncId) (o : Oper) (s : St) (k : St → KT) (kp : AV → St → KT) : KT :=
  match aop P cfg kNo f o s with
  | some (.next s') => k s'
  | some (.panic v s') => kp v s'
  | none => .fail
/-- A pure operation's value is told beforehand. -/
def kput (f : FuncId) (o : Oper) (s : St) (v : AV) : St := { s with tmps := putT (disT s.tmps o.op.operands.toList (moves cfg f o)) o.dst v }
/-- The bounds of a cut. -/
def kbd (x : Option AV) (dflt : Int) : Option Int :=
  match x with
  | none => some dflt
  | some (.val (.int _ i)) => some i
  | _ => none
/-- Strings and slices are cut where bounds are not known. -/
def kslice (t : TypeId) (a : AV) (lo hi : Option AV) (k : AV → KT) : KT :=
  match P.underlying t, a with
  | some .string, .val (.string s) => match kbd lo 0, kbd hi s.size with
    | some l, some h => .need (decide (0 ≤ l ∧ l ≤ h ∧ h ≤ (s.size : Int))) (k (.val (.string (s.extract l.toNat h.toNat))))
    | _, _ => .fail
  | some (.slice e), .slice sz rows own => match size? P e, kbd lo 0, kbd hi rows.length with
    | some n, some l, some h => .need (decide ((rows = [] ∨ n = sz) ∧ 0 ≤ l ∧ l ≤ h ∧ h ≤ (rows.length : Int))) (match hi, own with
      | none, .full => k (.slice sz (rows.drop l.toNat) .full)
      | none, _ => k (.slice sz (rows.drop l.toNat) .no)
      | some _, .full => .branch (decide (h = (rows.length : Int))) (k (.slice sz ((rows.drop l.toNat).take (h.toNat - l.toNat)) .full)) (k (.slice sz ((rows.drop l.toNat).take (h.toNat - l.toNat)) .no))
      | some _, _ => k (.slice sz ((rows.drop l.toNat).take (h.toNat - l.toNat)) .no))
    | _, _, _ => .fail
  | _, _ => .fail
/-- A list's rows are told one by one (where their number is known). -/
def kforceR : List AV → (List AV → KT) → KT
  | [], k => k []
  | c :: l, k => kforceR l fun l => k (c :: l)
def kforce : List (List AV) → (List (List AV) → KT) → KT
  | [], k => k []
  | r :: l, k => kforceR r fun r => kforce l fun l => k (r :: l)
/-- Rows are put behind a slice. -/
def kmore (e : TypeId) (sz : Nat) (rows : List (List AV)) (own : Own) (sz' : Nat) (new : List (List AV)) (k : AV → KT) : KT :=
  match P.info? e with
  | none => .fail
  | some i => match decide (sz' = i.size ∧ i.bytes ≤ 4096 ∧ i.zero.map (fun z => z.cells.size) = some i.size) with
    | true => match own with
      | .no => .fail
      | .yes => match decide (sz = i.size) with
        | true => .need (Nat.ble (rows.length + new.length) 2147483648) (k (.slice i.size (rows ++ new.map (·.map AV.dis)) .yes))
        | false => .fail
      | .full => match decide (sz = i.size) with
        | true => .need (Nat.ble (rows.length + new.length) 2147483648) (k (.slice i.size (rows ++ new.map (·.map AV.dis)) .yes))
        | false => .need (rows.isEmpty && Nat.ble new.length 2147483648) (k (.slice i.size (new.map (·.map AV.dis)) .yes))
    | false => .fail
def kop (f : FuncId) (o : Oper) (kn : Nat) (s : St) (k0 : Nat → St → KT) (kp : AV → St → KT) : KT :=
  let k := fun kn s' => k0 (kupd kn o s') s'
  let dflt := kkap P cfg f o s (k kn) kp
  match o.op with
  | .pick (.tmp t) _ _ => match kn.testBit t with
    | true => dflt
    | false => match s.tmps[t]? with
      | some (.val (.bool b)) => .branch b (kkap P cfg f o (ksetB s t true) (k (kn ||| 2 ^ t)) kp) (kkap P cfg f o (ksetB s t false) (k (kn ||| 2 ^ t)) kp)
      | _ => dflt
  | .indexAddr ty x i => match vals s.tmps [x, i] [] with
    | [.slice sz rows own, .val (.int _ i)] => match P.underlying ty with
      | some (.slice e) => match decide (size? P e = some sz) with
        | true => kcells (rs e) fun cells => .row rows i cells (k kn (kput cfg f o s (.ref cells)))
        | false => .fail
      | _ => dflt
    | _ => dflt
  | .index ty x i => match vals s.tmps [x, i] [] with
    | [.val (.string b), .val (.int _ i)] => match P.underlying ty with
      | some .string => .exY fun y => .byte b i y (k kn (kput cfg f o s (.val (.int .u8 y.toNat))))
      | _ => dflt
    | _ => dflt
  | .convert src dst x => match vals s.tmps [x] [] with
    | [.slice _ rows _] => match P.underlying src, P.underlying dst with
      | some (.slice e), some .string => match P.underlying e with
        | some (.int .u8) => .exS fun y => .bytes rows y (k kn (kput cfg f o s (.val (.string y))))
        | _ => dflt
      | _, _ => dflt
    | _ => dflt
  | .buildSlice _ _ _ => match apure P o (vals s.tmps o.op.operands.toList (moves cfg f o)), decide (movedTmps o.op.operands.toList (moves cfg f o)).Nodup with
    | some (.slice sz rows own), true => kforce rows fun rows => k kn (kput cfg f o s (.slice sz rows own))
    | _, _ => dflt
  | .slice t _ l h m => match vals s.tmps o.op.operands.toList (moves cfg f o), m with
    | x :: r, none => match (x :: r).any AV.isLp with
      | false => kslice P t x (match l with | some _ => r.head? | none => none) (match h with | some _ => (match l with | some _ => r.tail | none => r).head? | none => none) fun v => k kn (kput cfg f o s v)
      | true => .fail
    | _, _ => dflt
  | .binOp .neq t x y _ => match vals s.tmps [x, y] [] with
    | [.agg a, .agg b] => .exB fun r => .prop (abin P .neq t x y (.agg a) (.agg b) = some (.val (.bool r))) (k kn (kput cfg f o s (.val (.bool r))))
    | _ => dflt
  | .binOp .eql t x y _ => match vals s.tmps [x, y] [] with
    | [.agg a, .agg b] => .exB fun r => .prop (abin P .eql t x y (.agg a) (.agg b) = some (.val (.bool r))) (k kn (kput cfg f o s (.val (.bool r))))
    | _ => dflt
  | .binOp .add t x y _ => match vals s.tmps [x, y] [] with
    | [.val (.string a), .val (.string b)] => .need (decide (¬ ((a.size + b.size : Nat) : Int) > IntKind.i64.max)) (k kn (kput cfg f o s (.val (.string (a ++ b)))))
    | _ => dflt
  | .call c => match c.callee with
    | .value _ => match decide (movedTmps o.op.operands.toList (moves cfg f o)).Nodup with
      | true => match vals s.tmps o.op.operands.toList (moves cfg f o) with
        | .func (.func g) first captured :: args => match (first.map AV.dis ++ args ++ captured.map AV.dis).any AV.isLp with
          | true => .fail
          | false => kc g (first.map AV.dis ++ args ++ captured.map AV.dis) (kargs kn first.length c.args.toList) .none s.g.H fun r known =>
            match r.out with
            | .ret v => k0 (kset kn known o.dst) { s with tmps := putT (disT s.tmps o.op.operands.toList (moves cfg f o)) o.dst v, g := { s.g with H := r.H } }
            | .panic v => kp v { s with tmps := disT s.tmps o.op.operands.toList (moves cfg f o), g := { s.g with H := r.H } }
        | _ => .fail
      | false => .fail
    | .builtin .append => match c.argTypes[0]?, c.argTypes[1]? with
      | some st, some xt => match P.underlying st, P.underlying xt with
        | some (.slice e), some xd => match xd with
          | .int _ => dflt
          | _ => match vals s.tmps o.op.operands.toList (moves cfg f o) with
            | [.slice sz rows own, b] => match newRows b, P.info? e, decide (movedTmps o.op.operands.toList (moves cfg f o)).Nodup with
              | some (sz', new), some _, true => match b with
                | .slice _ _ .full => match new with
                  | [] => k kn (kput cfg f o s (.slice sz rows own))
                  | _ :: _ => kmore P e sz rows own sz' new fun v => k kn (kput cfg f o s v)
                | _ => .branch new.isEmpty (k kn (kput cfg f o s (.slice sz rows own))) (kmore P e sz rows own sz' new fun v => k kn (kput cfg f o s v))
              | _, _, _ => dflt
            | _ => dflt
        | _, _ => dflt
      | _, _ => dflt
    | _ => dflt
  | _ => dflt
def kops (f : FuncId) (dsts : List (Option Tmp)) : List Oper → Nat → List (Option Cls) → St → (AX → List (Option Cls) → Nat → St → KT) → KT
  | [], kn, acc, s, k => k .normal acc kn s
  | o :: r, kn, acc, s, k => kkwant dsts o kn s fun w kn s =>
    match w with
    | true => kop P cfg rs kc f o kn s (fun kn' s' => kops f dsts r kn' (some (acls cfg f o (vals s.tmps o.op.operands.toList (moves cfg f o))) :: acc) s' k) (fun v s' => k (.panic v) (some (acls cfg f o (vals s.tmps o.op.operands.toList (moves cfg f o))) :: acc) 0 s')
    | false => kops f dsts r (kclr kn o.dst) (none :: acc) { s with tmps := putT s.tmps o.dst (.val undef) } k
mutual
/-- Nothing points to a block from n on: what can't be seen is asked. -/
def klowV (n : Nat) : AV → KT → KT
  | .any, k => k
  | .val _, k => k
  | .lp _ _ _, k => k
  | .slice _ rows _, k => .need (lowss n rows) k
  | .ref cs, k => klowL n cs k
  | .ptr id _, k => match Nat.blt id n with
    | true => k
    | false => .fail
  | .func _ a b, k => klowL n a (klowL n b k)
  | .iface _ v, k => klowV n v k
  | .agg cs, k => klowL n cs k
  | .tuple cs, k => klowL n cs k
def klowL (n : Nat) : List AV → KT → KT
  | [], k => k
  | v :: l, k => klowV n v (klowL n l k)
end
def klowLh (n : Nat) : List (Option LCell) → KT → KT
  | [], k => k
  | none :: l, k => klowLh n l k
  | some (_, cs) :: l, k => klowL n cs (klowLh n l k)
def klowD (n : Nat) : List ADef → KT → KT
  | [], k => k
  | d :: l, k => klowL n d.args (klowD n l k)
def klowRM (n : Nat) (m : RM) (k : KT) : KT :=
  match m with
  | .panicking v _ => klowV n v k
  | _ => k
def klowH (n : Nat) : Heap → KT → KT
  | [], k => k
  | cs :: l, k => klowL n cs (klowH n l k)
def klowSt (n : Nat) (s : St) (k : KT) : KT := klowL n s.tmps (klowLh n s.lh (klowD n s.g.defers (klowRM n s.g.rm (klowH n (s.g.H.take n) k))))
/-- To a loop's head. -/
def kmask (live : Option Nat) (s : St) (k : St → KT) : KT :=
  match live with
  | none => k s
  | some m => match (maskTmps m 0 s.tmps).all (lpIn m) with
    | true => match m.testBit cutBit with
      | true => klowSt s.g.base { s with tmps := maskTmps m 0 s.tmps, lh := maskLh m 0 s.lh }
          (k { s with tmps := maskTmps m 0 s.tmps, lh := maskLh m 0 s.lh, g := { s.g with H := s.g.H.take s.g.base } })
      | false => k { s with tmps := maskTmps m 0 s.tmps, lh := maskLh m 0 s.lh }
    | false => .fail
def kcode (f : FuncId) : (b : Nat) → Code → Nat → St → (AX → Nat → St → KT) → KT
  | _, .skip, kn, s, k => k .normal kn s
  | _, .region _ ops false, kn, s, k => kops P cfg rs kc f (ops.toList.map (·.dst)) ops.toList kn [] s fun x _ kn s => k x kn s
  | _, .region _ ops true, kn, s, k => kops P cfg rs kc f (ops.toList.map (·.dst)) ops.toList kn [] s fun x acc kn s =>
    match x with
    | .normal => match checkD cfg f (ops.toList.map (·.dst)) ops.toList acc.reverse 0 [] [] with
      | true => k .normal kn s
      | false => .fail
    | .panic v => match checkP P cfg f ops (ops.toList.map (·.dst)) v ops.toList acc.reverse 0 [] [] s with
      | some (v2, s2) => k (.panic v2) 0 (maskAll s2)
      | none => .fail
    | _ => .fail
  | b, .seq x y, kn, s, k => match (liveAt (cfg f).live (codeKey y)).isSome with
    | true => .stage (kcode f b x kn s fun r kn s => match r with
      | .normal => kmask (liveAt (cfg f).live (codeKey y)) s .done
      | .exit id => .out (k (.exit id) kn s)
      | .ret => .out (k .ret kn s)
      | .panic v => .out (k (.panic v) kn s)) fun s => kcode f b y 0 s k
    | false => kcode f b x kn s fun r kn s => match r with
      | .normal => kcode f b y kn s k
      | .exit id => k (.exit id) kn s
      | .ret => k .ret kn s
      | .panic v => k (.panic v) kn s
  | b, .cond (.tmp t) x y, kn, s, k => match s.tmps[t]? with
    | some (.val (.bool v)) => match kn.testBit t with
      | true => match v with
        | true => kcode f b x kn s k
        | false => kcode f b y kn s k
      | false => .branch v (kcode f b x (kn ||| 2 ^ t) (ksetB s t true) k) (kcode f b y (kn ||| 2 ^ t) (ksetB s t false) k)
    | _ => .fail
  | _, .block id x, kn, s, k => kcode f id x kn s fun r kn s => match r with
    | .exit i => match decide (i = id) with
      | true => k .normal kn s
      | false => k (.exit i) kn s
    | .normal => k .normal kn s
    | .ret => k .ret kn s
    | .panic v => k (.panic v) kn s
  | _, .exit id, kn, s, k => k (.exit id) kn s
  | b, .scope x, kn, s, k => kcode f b x kn s k
  | _, .label _, kn, s, k => k .normal kn s
  | _, .ret, kn, s, k => k .ret kn s
  | b, .loop x, _, s, k => kmask (liveAt (cfg f).live b) s fun s0 => .loop f b x s0 fun r s' => k r 0 s'
  | _, _, _, _, _ => .fail
/-- The deferred calls. -/
def kdefers : List ADef → RM → Heap → (RM → Heap → KT) → KT
  | [], m, H, k => k m H
  | d :: r, m, H, k => kc d.f d.args 0 m H fun res _ => match res.out with
    | .ret _ => kdefers r (settleA res.rm) res.H k
    | .panic v => kdefers r (.panicking v false) res.H k
def kfinR (fn : Func) (s : St) (rm m : RM) (k : CRes → KT) : KT :=
  match m with
  | .returning => match aresults P s s.g.H fn.results.toList with
    | some l => k ⟨.ret (resultOf l), rm, s.g.H⟩
    | none => .fail
  | .panicking v false => k ⟨.panic v, rm, s.g.H⟩
  | _ => .fail
/-- The end of a frame. -/
def kfin (fn : Func) (s : St) (m : RM) (k : CRes → KT) : KT :=
  match s.g.rm with
  | .none => kdefers kc s.g.defers m s.g.H fun m H => match m with
    | .returning => match aresults P s H fn.results.toList with
      | some l => k ⟨.ret (resultOf l), .none, H⟩
      | none => .fail
    | .panicking v false => k ⟨.panic v, .none, H⟩
    | _ => .fail
  | .returning => match s.g.defers with
    | [] => kfinR P fn s .returning m k
    | _ => .fail
  | .panicking v b => match s.g.defers with
    | [] => kfinR P fn s (.panicking v b) m k
    | _ => .fail
def kfinX (fn : Func) (x : AX) (s : St) (k : CRes → KT) : KT :=
  match x with
  | .normal => kfin P kc fn s .returning k
  | .ret => kfin P kc fn s .returning k
  | .panic v => kfin P kc fn s (.panicking v false) k
  | .exit _ => .fail
def kstart (fn : Func) (args : List AV) (rm : RM) (H : Heap) : St := ⟨args ++ List.replicate (fn.ntmps - args.length) (.val undef), List.replicate fn.ntmps none, ⟨H, [], rm, H.length⟩⟩
/-- The cut at a call's end. -/
def kcut (cut : Option Bool) (rm : RM) (n : Nat) (r : CRes) (k : CRes → KT) : KT :=
  match rm with
  | .none => match cut with
    | some true => klowV n (match r.out with | .ret v => v | .panic v => v) (klowH n (r.H.take n) (k ⟨r.out, r.rm, r.H.take n⟩))
    | some false => .need (Nat.ble r.H.length n) (k r)
    | none => .need (Nat.ble r.H.length n || !r.out.low n) (k r)
  | _ => k r
/-- Is the answer known? -/
def kresKnown (fn : Func) (kn : Nat) : Bool :=
  match fn.results.toList with
  | [.tmp t] => kn.testBit t
  | _ => false
def kfun (cut : Option Bool) (f : FuncId) (args : List AV) (kn : Nat) (rm : RM) (H : Heap) (k : CRes → Bool → KT) : KT :=
  match (cfg f).ext with
  | true => .fail
  | false => match P.funcs[f]? with
  | none => .fail
  | some fn => match fn.body with
    | none => .fail
    | some c => kcode P cfg rs kc f 0 c kn (kstart fn args rm H) fun x kn s => kfinX P kc fn x s fun r => kcut cut rm H.length r fun r => k (normRes P (cfg f).norm fn.resultTypes.toList r) (kresKnown fn kn)
end
section
variable (P : Program) (cfg : FuncId → FCfg) (rs : TypeId → List KSh) (sh : FuncId → KM)
/-- Calls: gone into so deep, else asked. -/
def kcalls : Nat → KC
  | 0 => fun g args _ rm H k => match sh g with
    | .inl _ => .fail
    | .keep => .fail
    | .con ret pan heap => kask ret pan heap g args rm H fun r => k r false
  | n + 1 => fun g args kn rm H k => match sh g with
    | .inl cut => kfun P cfg rs (kcalls n) (some cut) g args kn rm H k
    | .keep => kfun P cfg rs (kcalls n) none g args kn rm H k
    | .con ret pan heap => kask ret pan heap g args rm H fun r => k r false
/-- A function's tree. -/
def ktree (n : Nat) (cut : Bool) (f : FuncId) (args : List AV) (rm : RM) (H : Heap) : KT := kfun P cfg rs (kcalls P cfg rs sh n) (some cut) f args 0 rm H fun r _ => .ret r
end
/-! ### what trees mean -/
section
variable {P : Program} {cfg : FuncId → FCfg} {rs : TypeId → List KSh} {call : CallF} {QD : List (St → Prop)} {QR : CRes → Prop}
def KCS (P : Program) (cfg : FuncId → FCfg) (call : CallF) (QD : List (St → Prop)) (QR : CRes → Prop) (kc : KC) : Prop :=
  ∀ g args kn rm H k, (kc g args kn rm H k).wp P cfg call QD QR → ∃ r known, call g args rm H = some r ∧ (k r known).wp P cfg call QD QR
theorem ksetB_eq {s : St} {t : Tmp} {b : Bool} (h : s.tmps[t]? = some (.val (.bool b))) : ksetB s t b = s := by
  unfold ksetB
  have : s.tmps.set t (.val (.bool b)) = s.tmps := by
    apply List.ext_getElem?
    intro i
    rw [List.getElem?_set]
    split
    · rename_i e; subst e
      split
      · exact h.symm
      · rename_i hl
        rw [List.getElem?_eq_none (by omega)] at h; cases h
    · rfl
  rw [this]
theorem kwp_branch {b : Bool} {t f : KT} (h : (KT.branch b t f).wp P cfg call QD QR) : (b = true ∧ t.wp P cfg call QD QR) ∨ (b = false ∧ f.wp P cfg call QD QR) := by
  cases b
  · exact .inr ⟨rfl, h.2 rfl⟩
  · exact .inl ⟨rfl, h.1 rfl⟩
mutual
theorem kcell_sound : ∀ {c : KSh} {k : AV → KT}, (kcell c k).wp P cfg call QD QR → ∃ v, (k v).wp P cfg call QD QR
  | .any, _, h => h
  | .bool, _, h => by obtain ⟨b, h⟩ := h; exact ⟨_, h⟩
  | .int _, _, h => by obtain ⟨b, h⟩ := h; exact ⟨_, h⟩
  | .str, _, h => by obtain ⟨b, h⟩ := h; exact ⟨_, h⟩
  | .slice _ _, _, h => by obtain ⟨b, h⟩ := h; exact ⟨_, h⟩
  | .ref l, _, h => by
    rw [kcell] at h
    obtain ⟨cs, h⟩ := kcell_go_sound h
    exact ⟨_, h⟩
  | .agg l, _, h => by
    rw [kcell] at h
    obtain ⟨cs, h⟩ := kcell_go_sound h
    exact ⟨_, h⟩
  | .const _, _, h => ⟨_, h⟩
  | .alt a b, _, h => by
    rw [kcell] at h
    rcases h with h | h
    · exact kcell_sound h
    · exact kcell_sound h
theorem kcell_go_sound : ∀ {l : List KSh} {k : List AV → KT}, (kcell.go l k).wp P cfg call QD QR → ∃ v, (k v).wp P cfg call QD QR
  | [], _, h => by rw [kcell.go] at h; exact ⟨_, h⟩
  | c :: r, _, h => by
    rw [kcell.go] at h
    obtain ⟨v, h⟩ := kcell_sound h
    obtain ⟨l, h⟩ := kcell_go_sound h
    exact ⟨_, h⟩
end
theorem kcells_sound : ∀ {l : List KSh} {k : List AV → KT}, (kcells l k).wp P cfg call QD QR → ∃ v, (k v).wp P cfg call QD QR
  | [], _, h => ⟨_, h⟩
  | c :: r, _, h => by
    obtain ⟨v, h⟩ := kcell_sound h
    obtain ⟨l, h⟩ := kcells_sound h
    exact ⟨_, h⟩
theorem kres_sound {args : List AV} {s : KRs} {k : AV → KT} (h : (kres args s k).wp P cfg call QD QR) : ∃ v, (k v).wp P cfg call QD QR := by
  cases s with
  | one c => exact kcell_sound h
  | tup l => obtain ⟨v, h⟩ := kcells_sound h; exact ⟨_, h⟩
  | agg l => obtain ⟨v, h⟩ := kcells_sound h; exact ⟨_, h⟩
  | arg i => exact ⟨_, h⟩
theorem kheap_sound : ∀ {H : Heap} {k : Heap → KT}, (kheap H k).wp P cfg call QD QR → ∃ H', (k H').wp P cfg call QD QR
  | [], _, h => ⟨_, h⟩
  | b :: r, _, h => by
    obtain ⟨v, h⟩ := kcells_sound h
    obtain ⟨l, h⟩ := kheap_sound h
    exact ⟨_, h⟩
theorem kheap?_sound {b : Bool} {H : Heap} {k : Heap → KT} (h : (kheap? b H k).wp P cfg call QD QR) : ∃ H', (k H').wp P cfg call QD QR := by
  cases b with
  | true => exact kheap_sound h
  | false => exact ⟨_, h⟩
theorem kask_sound {ret : Option KRs} {pan : Option (TypeId × KSh)} {heap : Bool} {g : FuncId} {args : List AV} {rm : RM} {H : Heap} {k : CRes → KT} (h : (kask ret pan heap g args rm H k).wp P cfg call QD QR) :
    ∃ r, call g args rm H = some r ∧ (k r).wp P cfg call QD QR := by
  have hr : ∀ s, (kres args s fun v => kheap? heap H fun H' => .call g args rm H ⟨.ret v, .none, H'⟩ (k ⟨.ret v, .none, H'⟩)).wp P cfg call QD QR → ∃ r, call g args rm H = some r ∧ (k r).wp P cfg call QD QR := by
    intro s h
    obtain ⟨v, h⟩ := kres_sound h
    obtain ⟨H', h⟩ := kheap?_sound h
    exact ⟨_, h.1, h.2⟩
  have hp : ∀ p : TypeId × KSh, (kcell p.2 fun v => kheap? heap H fun H' => .call g args rm H ⟨.panic (.iface p.1 v), .none, H'⟩ (k ⟨.panic (.iface p.1 v), .none, H'⟩)).wp P cfg call QD QR → ∃ r, call g args rm H = some r ∧ (k r).wp P cfg call QD QR := by
    intro p h
    obtain ⟨v, h⟩ := kcell_sound h
    obtain ⟨H', h⟩ := kheap?_sound h
    exact ⟨_, h.1, h.2⟩
  unfold kask at h
  cases ret with
  | none => cases pan with
    | none => exact h.elim
    | some q => exact hp q h
  | some s => cases pan with
    | none => exact hr s h
    | some q =>
      rcases h with h | h
      · exact hr s h
      · exact hp q h
variable {kc : KC} {f : FuncId}
theorem kkwant_sound {dsts : List (Option Tmp)} {o : Oper} {kn : Nat} {s : St} {k : Bool → Nat → St → KT} (h : (kkwant dsts o kn s k).wp P cfg call QD QR) :
    ∃ w kn', wantedG dsts o s.tmps = some w ∧ (k w kn' s).wp P cfg call QD QR := by
  unfold kkwant at h
  unfold wantedG
  split at h
  · rename_i e; (try simp only [e]); exact ⟨_, _, rfl, h⟩
  · rename_i j want e
    (try simp only [e])
    simp only [gval]
    split at h
    · rename_i e2; (try simp only [e2]); exact ⟨_, _, rfl, h⟩
    · rename_i t e2
      (try simp only [e2])
      split at h
      · rename_i e3; (try simp only [e3]); exact ⟨_, _, rfl, h⟩
      · rename_i b e3
        (try simp only [e3])
        split at h
        · cases b <;> exact ⟨_, _, rfl, h⟩
        · rcases kwp_branch h with ⟨rfl, h'⟩ | ⟨rfl, h'⟩
          · rw [ksetB_eq e3] at h'; exact ⟨_, _, rfl, h'⟩
          · rw [ksetB_eq e3] at h'; exact ⟨_, _, rfl, h'⟩
      · rename_i v hv e3
        (try simp only [e3])
        exact ⟨false, _, rfl, h⟩
      · exact h.elim
theorem kkap_sound {o : Oper} {s : St} {k : St → KT} {kp : AV → St → KT} (h : (kkap P cfg f o s k kp).wp P cfg call QD QR) :
    (∃ s', aop P cfg call f o s = some (.next s') ∧ (k s').wp P cfg call QD QR) ∨ ∃ v s', aop P cfg call f o s = some (.panic v s') ∧ (kp v s').wp P cfg call QD QR := by
  unfold kkap at h
  split at h
  · rename_i e; exact .inl ⟨_, aop_mono kNo_le e, h⟩
  · rename_i e; exact .inr ⟨_, _, aop_mono kNo_le e, h⟩
  · exact h.elim
/-- A pure operation whose value is known. -/
theorem kpure {o : Oper} {s : St} {v : AV} (hn : (movedTmps o.op.operands.toList (moves cfg f o)).Nodup) (hcl : acls cfg f o (vals s.tmps o.op.operands.toList (moves cfg f o)) = .pure)
    (hp : apure P o (vals s.tmps o.op.operands.toList (moves cfg f o)) = some v) : aop P cfg call f o s = some (.next (kput cfg f o s v)) := by
  unfold aop kput
  simp only [if_pos hn, hcl, hp]
theorem kbd_bound {x : Option AV} {d : Int} {l : Int} {dn m : Nat} (h : kbd x d = some l) (hd : x = none → d = dn) (h0 : 0 ≤ l) (hm : l ≤ m) : bound? x dn m = some l.toNat := by
  cases x with
  | none =>
    simp only [kbd, Option.some.injEq] at h
    have := hd rfl
    simp only [bound?, Option.some.injEq]; omega
  | some a =>
    cases a with
    | val v => cases v with
      | int k i =>
        simp only [kbd, Option.some.injEq] at h; subst h
        simp only [bound?, h0, hm, and_self, if_true]
      | _ => simp [kbd] at h
    | _ => simp [kbd] at h
theorem kslice_sound {t : TypeId} {a : AV} {lo hi : Option AV} {k : AV → KT} (h : (kslice P t a lo hi k).wp P cfg call QD QR) : ∃ v, aslice P t a lo hi none = some v ∧ (k v).wp P cfg call QD QR := by
  unfold kslice at h
  split at h
  · rename_i s hu
    split at h
    · rename_i l hh hl hhi
      obtain ⟨h1, h2⟩ := h
      obtain ⟨a1, a2, a3⟩ := of_decide_eq_true h1
      have e1 : bound? hi s.size s.size = some hh.toNat := kbd_bound hhi (fun _ => rfl) (by omega) (by omega)
      have e2 : bound? lo 0 hh.toNat = some l.toNat := kbd_bound hl (fun _ => rfl) a1 (by omega)
      refine ⟨_, ?_, h2⟩
      simp only [aslice, hu, e1, e2]
    · exact h.elim
  · rename_i e sz rows own hu
    split at h
    · rename_i n l hh hn hl hhi
      obtain ⟨h1, h2⟩ := h
      obtain ⟨a0, a1, a2, a3⟩ := of_decide_eq_true h1
      have e1 : bound? hi rows.length rows.length = some hh.toNat := kbd_bound hhi (fun _ => rfl) (by omega) (by omega)
      have e2 : bound? lo 0 hh.toNat = some l.toNat := kbd_bound hl (fun _ => rfl) a1 (by omega)
      have key : aslice P t (.slice sz rows own) lo hi none = some (.slice sz ((rows.drop l.toNat).take (hh.toNat - l.toNat)) (if hh.toNat = rows.length ∧ own = .full then .full else .no)) := by
        simp only [aslice, hu, hn, a0, if_true, e1, e2]
      rw [key]
      cases hi with
      | none =>
        simp only [kbd, Option.some.injEq] at hhi
        have hx : hh.toNat = rows.length := by omega
        have ht : (rows.drop l.toNat).take (hh.toNat - l.toNat) = rows.drop l.toNat := List.take_of_length_le (by simp only [List.length_drop]; omega)
        rw [ht]
        cases own with
        | full => simp only [hx, and_self, if_true]; exact ⟨_, rfl, h2⟩
        | no => simp only [reduceCtorEq, and_false, if_false]; exact ⟨_, rfl, h2⟩
        | yes => simp only [reduceCtorEq, and_false, if_false]; exact ⟨_, rfl, h2⟩
      | some x =>
        cases own with
        | full =>
          rcases kwp_branch h2 with ⟨e, h2⟩ | ⟨e, h2⟩
          · have e := of_decide_eq_true e
            have hx : hh.toNat = rows.length := by omega
            rw [if_pos ⟨hx, rfl⟩]
            exact ⟨_, rfl, h2⟩
          · have e := of_decide_eq_false e
            have hx : ¬ hh.toNat = rows.length := by omega
            simp only [hx, false_and, if_false]; exact ⟨_, rfl, h2⟩
        | no => simp only [reduceCtorEq, and_false, if_false]; exact ⟨_, rfl, h2⟩
        | yes => simp only [reduceCtorEq, and_false, if_false]; exact ⟨_, rfl, h2⟩
    · exact h.elim
  · exact h.elim
theorem kforceR_eq : ∀ (l : List AV) (k : List AV → KT), kforceR l k = k l
  | [], k => rfl
  | c :: l, k => by rw [kforceR, kforceR_eq]
theorem kforce_eq : ∀ (l : List (List AV)) (k : List (List AV) → KT), kforce l k = k l
  | [], k => rfl
  | r :: l, k => by rw [kforce, kforceR_eq, kforce_eq]
theorem kmore_sound {e : TypeId} {sz : Nat} {rows : List (List AV)} {own : Own} {sz' : Nat} {new : List (List AV)} {k : AV → KT} {X : Option AV} (hne : new ≠ [])
    (hX : ∀ ii v, P.info? e = some ii → (if (sz = ii.size ∨ (rows = [] ∧ own = .full)) ∧ sz' = ii.size ∧ own ≠ .no ∧ rows.length + new.length ≤ 2147483648 ∧ ii.bytes ≤ 4096 ∧ ii.zero.map (·.cells.size) = some ii.size then
            some (AV.slice ii.size (rows ++ new.map (·.map AV.dis)) .yes) else none) = some v → X = some v)
    (h : (kmore P e sz rows own sz' new k).wp P cfg call QD QR) : ∃ v, X = some v ∧ (k v).wp P cfg call QD QR := by
  unfold kmore at h
  split at h
  · exact h.elim
  · rename_i ii hi
    split at h
    · rename_i hd
      have hd := of_decide_eq_true hd
      split at h
      · exact h.elim
      · split at h
        · rename_i he
          refine ⟨_, hX ii _ hi ?_, h.2⟩
          rw [if_pos ⟨.inl (of_decide_eq_true he), hd.1, by simp, Nat.le_of_ble_eq_true h.1, hd.2.1, hd.2.2⟩]
        · exact h.elim
      · split at h
        · rename_i he
          refine ⟨_, hX ii _ hi ?_, h.2⟩
          rw [if_pos ⟨.inl (of_decide_eq_true he), hd.1, by simp, Nat.le_of_ble_eq_true h.1, hd.2.1, hd.2.2⟩]
        · obtain ⟨h1, h2⟩ := h
          simp only [Bool.and_eq_true, List.isEmpty_iff] at h1
          refine ⟨_, hX ii _ hi ?_, h2⟩
          rw [if_pos ⟨.inr ⟨h1.1, rfl⟩, hd.1, by simp, by rw [h1.1]; simpa using Nat.le_of_ble_eq_true h1.2, hd.2.1, hd.2.2⟩, h1.1]; rfl
    · exact h.elim
theorem kop_sound (hkc : KCS P cfg call QD QR kc) {o : Oper} {kn : Nat} {s : St} {k : Nat → St → KT} {kp : AV → St → KT} (h : (kop P cfg rs kc f o kn s k kp).wp P cfg call QD QR) :
    (∃ s' kn', aop P cfg call f o s = some (.next s') ∧ (k kn' s').wp P cfg call QD QR) ∨ ∃ v s', aop P cfg call f o s = some (.panic v s') ∧ (kp v s').wp P cfg call QD QR := by
  have dflt : ∀ {kn'}, (kkap P cfg f o s (fun s' => k (kupd kn' o s') s') kp).wp P cfg call QD QR → (∃ s' kn', aop P cfg call f o s = some (.next s') ∧ (k kn' s').wp P cfg call QD QR) ∨ ∃ v s', aop P cfg call f o s = some (.panic v s') ∧ (kp v s').wp P cfg call QD QR := by
    intro kn' h
    rcases kkap_sound h with ⟨s', h1, h2⟩ | h
    · exact .inl ⟨s', _, h1, h2⟩
    · exact .inr h
  unfold kop at h
  simp only at h
  split at h
  · split at h
    · exact dflt h
    · split at h
      · rename_i e3
        rcases kwp_branch h with ⟨rfl, h'⟩ | ⟨rfl, h'⟩
        · rw [ksetB_eq e3] at h'; exact dflt h'
        · rw [ksetB_eq e3] at h'; exact dflt h'
      · exact dflt h
  · rename_i ty x i eo
    split at h
    · rename_i sz rows own kd ix ev1
      split at h
      · rename_i e eu
        split at h
        · rename_i hs
          obtain ⟨cells, ⟨h0, h1⟩, h2⟩ := kcells_sound h
          refine .inl ⟨_, _, ?_, h2⟩
          have hs := of_decide_eq_true hs
          have hm : moves cfg f o = [] := by unfold moves; rw [eo]
          have ho : o.op.operands.toList = [x, i] := by rw [eo]; rfl
          have hmv : movedTmps [x, i] [] = [] := by cases x <;> rfl
          refine kpure (by rw [hm, ho, hmv]; exact List.nodup_nil) (by unfold acls; rw [eo]) ?_
          rw [hm, ho, ev1]
          unfold apure; rw [eo]; simp only [aindexAddr, eu, h0, if_true, h1, hs]
        · exact h.elim
      · exact dflt h
    · exact dflt h
  · rename_i ty x i eo
    split at h
    · rename_i b kd ix ev1
      split at h
      · rename_i eu
        obtain ⟨y, ⟨h0, h1⟩, h2⟩ := h
        refine .inl ⟨_, _, ?_, h2⟩
        have hm : moves cfg f o = [] := by unfold moves; rw [eo]
        have ho : o.op.operands.toList = [x, i] := by rw [eo]; rfl
        have hmv : movedTmps [x, i] [] = [] := by cases x <;> rfl
        refine kpure (by rw [hm, ho, hmv]; exact List.nodup_nil) (by unfold acls; rw [eo]) ?_
        rw [hm, ho, ev1]
        unfold apure; rw [eo]; simp only [aindex, eu, h0, if_true, h1, Option.map_some]
      · exact dflt h
    · exact dflt h
  · rename_i src dst x eo
    split at h
    · rename_i sz rows own ev1
      split at h
      · rename_i e eu ed
        split at h
        · rename_i eb
          obtain ⟨y, h1, h2⟩ := h
          refine .inl ⟨_, _, ?_, h2⟩
          have hm : moves cfg f o = [] := by unfold moves; rw [eo]
          have ho : o.op.operands.toList = [x] := by rw [eo]; rfl
          have hmv : movedTmps [x] [] = [] := by cases x <;> rfl
          refine kpure (by rw [hm, ho, hmv]; exact List.nodup_nil) (by unfold acls; rw [eo]) ?_
          rw [hm, ho, ev1]
          unfold apure; rw [eo]; simp only [aconvert, eu, ed, eb, h1]
        · exact dflt h
      · exact dflt h
    · exact dflt h
  · rename_i t n ps eo
    split at h
    · rename_i sz rows own ev1 hn
      have hn := of_decide_eq_true hn
      rw [kforce_eq] at h
      exact .inl ⟨_, _, kpure hn (by unfold acls; rw [eo]) ev1, h⟩
    · exact dflt h
  · rename_i t x0 l hh m eo
    split at h
    · rename_i x r ev1
      split at h
      · rename_i hlp
        obtain ⟨v, h1, h2⟩ := kslice_sound h
        refine .inl ⟨_, _, ?_, h2⟩
        have hm : moves cfg f o = [] := by unfold moves; rw [eo]
        have hmv : ∀ l : List Operand, movedTmps l [] = [] := by intro l; cases l with
          | nil => rfl
          | cons a l => cases a <;> rfl
        refine kpure (by rw [hm, hmv]; exact List.nodup_nil) (by unfold acls; rw [eo]) ?_
        rw [ev1]
        have hlen : (vals s.tmps o.op.operands.toList (moves cfg f o)).length = o.op.operands.toList.length := by
          have : ∀ (xs : List Operand) (ms : List Bool), (vals s.tmps xs ms).length = xs.length := by
            intro xs
            induction xs with
            | nil => intro ms; cases ms <;> rfl
            | cons a xs ih => intro ms; cases ms <;> simp [vals, ih]
          exact this _ _
        rw [ev1, eo] at hlen
        unfold apure; rw [eo]
        cases l with
        | none => cases hh with
          | none => simp only [Option.isSome_none, Bool.false_eq_true, if_false, hlp, and_self, if_true]; exact h1
          | some hx =>
            simp only [Option.isSome_none, Option.isSome_some, Bool.false_eq_true, if_false, if_true, hlp] at h1 ⊢
            cases r with
            | nil => simp [Op.operands] at hlen
            | cons a r => simp only [List.head?_cons, Option.isSome_some, and_self, if_true]; exact h1
        | some lx => cases r with
          | nil => cases hh <;> simp [Op.operands] at hlen
          | cons a r => cases hh with
            | none =>
              simp only [Option.isSome_none, Option.isSome_some, Bool.false_eq_true, if_false, if_true, hlp, List.head?_cons, List.tail_cons, and_self] at h1 ⊢
              exact h1
            | some hx =>
              simp only [Option.isSome_none, Option.isSome_some, Bool.false_eq_true, if_false, if_true, hlp, List.head?_cons, List.tail_cons] at h1 ⊢
              cases r with
              | nil => simp [Op.operands] at hlen
              | cons b r => simp only [List.head?_cons, Option.isSome_some, and_self, if_true]; exact h1
      · exact h.elim
    · exact dflt h
  · rename_i t x y r0 eo
    split at h
    · rename_i a b ev1
      obtain ⟨r, h1, h2⟩ := h
      refine .inl ⟨_, _, ?_, h2⟩
      have hm : moves cfg f o = [] := by unfold moves; rw [eo]
      have ho : o.op.operands.toList = [x, y] := by rw [eo]; rfl
      have hmv : movedTmps [x, y] [] = [] := by cases x <;> rfl
      refine kpure (by rw [hm, ho, hmv]; exact List.nodup_nil) (by unfold acls; rw [eo]) ?_
      rw [hm, ho, ev1]
      unfold apure; rw [eo]
      exact h1
    · exact dflt h
  · rename_i t x y r0 eo
    split at h
    · rename_i a b ev1
      obtain ⟨r, h1, h2⟩ := h
      refine .inl ⟨_, _, ?_, h2⟩
      have hm : moves cfg f o = [] := by unfold moves; rw [eo]
      have ho : o.op.operands.toList = [x, y] := by rw [eo]; rfl
      have hmv : movedTmps [x, y] [] = [] := by cases x <;> rfl
      refine kpure (by rw [hm, ho, hmv]; exact List.nodup_nil) (by unfold acls; rw [eo]) ?_
      rw [hm, ho, ev1]
      unfold apure; rw [eo]
      exact h1
    · exact dflt h
  · rename_i t x y r0 eo
    split at h
    · rename_i a b ev1
      obtain ⟨h1, h2⟩ := h
      have h1 := of_decide_eq_true h1
      refine .inl ⟨_, _, ?_, h2⟩
      have hm : moves cfg f o = [] := by unfold moves; rw [eo]
      have ho : o.op.operands.toList = [x, y] := by rw [eo]; rfl
      have hmv : movedTmps [x, y] [] = [] := by cases x <;> rfl
      refine kpure (by rw [hm, ho, hmv]; exact List.nodup_nil) (by unfold acls; rw [eo]) ?_
      rw [hm, ho, ev1]
      unfold apure; rw [eo]
      simp only [abin, AV.toVal]
      have : semVal P (do eqGuard .add t x y (.string a) (.string b); binOp .add t (.string a) (.string b)) = some (.string (a ++ b)) := by
        have e0 : eqGuard .add t x y (.string a) (.string b) = .pure () := rfl
        rw [e0]
        show semVal P (binOp .add t (.string a) (.string b)) = _
        unfold binOp Op.stringOp
        simp only [h1, if_false]; rfl
      rw [this]; rfl
    · exact dflt h
  · rename_i c eo
    split at h
    · rename_i cv ec
      split at h
      · rename_i hn
        have hn := of_decide_eq_true hn
        split at h
        · rename_i g first captured args ev1
          split at h
          · exact h.elim
          · rename_i hl
            obtain ⟨r, known, h1, h2⟩ := hkc _ _ _ _ _ _ h
            have hcl : ∀ vs, acls cfg f o vs = .glob true := by intro vs; unfold acls; rw [eo]; simp only [ec]
            obtain ⟨out, rm', H'⟩ := r
            cases out with
            | ret v =>
              refine .inl ⟨_, _, ?_, h2⟩
              have hg : aglob P cfg call f o (.func (.func g) first captured :: args) s.g = some (.val v { s.g with H := H' }) := by
                unfold aglob; rw [eo]; simp only [ec, acallv, hl, Bool.false_eq_true, if_false, h1]
              unfold aop
              simp only [hn, if_true, hcl, ev1, hg]
            | panic v =>
              refine .inr ⟨_, _, ?_, h2⟩
              have hg : aglob P cfg call f o (.func (.func g) first captured :: args) s.g = some (.panic v { s.g with H := H' }) := by
                unfold aglob; rw [eo]; simp only [ec, acallv, hl, Bool.false_eq_true, if_false, h1]
              unfold aop
              simp only [hn, if_true, hcl, ev1, hg]
        · exact h.elim
      · exact h.elim
    · rename_i ec
      split at h
      · rename_i st xt e0 e1
        split at h
        · rename_i e xd hst hxt
          split at h
          · exact dflt h
          · rename_i hxd
            split at h
            · rename_i sz rows own b ev1
              split at h
              · rename_i sz' new ii hb hi hn
                have hn := of_decide_eq_true hn
                have hcl : ∀ vs, acls cfg f o vs = .pure := by intro vs; unfold acls; rw [eo]; simp only [ec]
                have hp : ∀ r, aappend P c.argTypes (.slice sz rows own) b = some r → aop P cfg call f o s = some (.next (kput cfg f o s r)) := by
                  intro r hr
                  refine kpure hn (hcl _) ?_
                  rw [ev1]
                  unfold apure; rw [eo]; simp only [ec, abuiltin, hr]
                have hempty : ∀ ii, P.info? e = some ii → new = [] → aappend P c.argTypes (.slice sz rows own) b = some (.slice sz rows own) := by
                  intro ii hi hnew; unfold aappend
                  simp only [e0, e1, hst, hxt]
                  cases xd with
                  | int k => exact absurd rfl (hxd k)
                  | _ => simp only [hb, hi, hnew, if_true]
                have go : ∀ {k' : AV → KT}, new ≠ [] → (kmore P e sz rows own sz' new k').wp P cfg call QD QR → ∃ v, aappend P c.argTypes (.slice sz rows own) b = some v ∧ (k' v).wp P cfg call QD QR := by
                  intro k' hne hk
                  refine kmore_sound hne ?_ hk
                  intro ii v hi hv
                  unfold aappend
                  simp only [e0, e1, hst, hxt]
                  cases xd with
                  | int k => exact absurd rfl (hxd k)
                  | _ => simp only [hb, hi, if_neg hne]; exact hv
                split at h
                · split at h
                  · exact .inl ⟨_, _, hp _ (hempty ii hi rfl), h⟩
                  · obtain ⟨v, h1, h2⟩ := go (by simp) h
                    exact .inl ⟨_, _, hp _ h1, h2⟩
                · rcases kwp_branch h with ⟨hbb, h'⟩ | ⟨hbb, h'⟩
                  · exact .inl ⟨_, _, hp _ (hempty ii hi (List.isEmpty_iff.1 hbb)), h'⟩
                  · obtain ⟨v, h1, h2⟩ := go (fun hh => by rw [hh] at hbb; cases hbb) h'
                    exact .inl ⟨_, _, hp _ h1, h2⟩
              · exact dflt h
            · exact dflt h
        · exact dflt h
      · exact dflt h
    · exact dflt h
  · exact dflt h
theorem kops_sound (hkc : KCS P cfg call QD QR kc) {dsts : List (Option Tmp)} : ∀ {l : List Oper} {kn : Nat} {acc : List (Option Cls)} {s : St} {k : AX → List (Option Cls) → Nat → St → KT}, (kops P cfg rs kc f dsts l kn acc s k).wp P cfg call QD QR →
    ∃ x acc' kn' s', aopsC P cfg call f dsts l acc s = some (x, acc', s') ∧ (k x acc' kn' s').wp P cfg call QD QR := by
  intro l
  induction l with
  | nil => intro kn acc s k h; exact ⟨_, _, _, _, rfl, h⟩
  | cons o r ih =>
    intro kn acc s k h
    unfold kops at h
    obtain ⟨w, kn1, hw, h⟩ := kkwant_sound h
    simp only [aopsC, hw]
    cases w with
    | true =>
      rcases kop_sound hkc h with ⟨s', kn2, h1, h2⟩ | ⟨v, s', h1, h2⟩
      · simp only [h1]; exact ih h2
      · simp only [h1]; exact ⟨_, _, _, _, rfl, h2⟩
    | false => exact ih h
mutual
theorem klowV_sound {n : Nat} : ∀ {v : AV} {k : KT}, (klowV n v k).wp P cfg call QD QR → v.low n = true ∧ k.wp P cfg call QD QR
  | .any, _, h => ⟨rfl, h⟩
  | .val _, _, h => ⟨rfl, h⟩
  | .lp _ _ _, _, h => ⟨rfl, h⟩
  | .slice _ _ _, _, h => h
  | .ref cs, _, h => by rw [klowV] at h; rw [AV.low]; exact klowL_sound h
  | .ptr id _, _, h => by
    rw [klowV] at h
    rw [AV.low]
    split at h
    · rename_i e; exact ⟨e, h⟩
    · exact h.elim
  | .func _ a b, _, h => by
    rw [klowV] at h
    obtain ⟨h1, h2⟩ := klowL_sound h
    obtain ⟨h3, h4⟩ := klowL_sound h2
    exact ⟨by rw [AV.low, h1, h3]; rfl, h4⟩
  | .iface _ v, _, h => by rw [klowV] at h; rw [AV.low]; exact klowV_sound h
  | .agg cs, _, h => by rw [klowV] at h; rw [AV.low]; exact klowL_sound h
  | .tuple cs, _, h => by rw [klowV] at h; rw [AV.low]; exact klowL_sound h
theorem klowL_sound {n : Nat} : ∀ {l : List AV} {k : KT}, (klowL n l k).wp P cfg call QD QR → lows n l = true ∧ k.wp P cfg call QD QR
  | [], _, h => ⟨rfl, h⟩
  | v :: l, _, h => by
    rw [klowL] at h
    obtain ⟨h1, h2⟩ := klowV_sound h
    obtain ⟨h3, h4⟩ := klowL_sound h2
    exact ⟨by rw [lows, h1, h3]; rfl, h4⟩
end
theorem klowLh_sound {n : Nat} : ∀ {l : List (Option LCell)} {k : KT}, (klowLh n l k).wp P cfg call QD QR → lowL n l = true ∧ k.wp P cfg call QD QR
  | [], _, h => ⟨rfl, h⟩
  | none :: l, _, h => by rw [lowL]; exact klowLh_sound h
  | some (_, cs) :: l, _, h => by
    rw [klowLh] at h
    obtain ⟨h1, h2⟩ := klowL_sound h
    obtain ⟨h3, h4⟩ := klowLh_sound h2
    exact ⟨by rw [lowL, h1, h3]; rfl, h4⟩
theorem klowD_sound {n : Nat} : ∀ {l : List ADef} {k : KT}, (klowD n l k).wp P cfg call QD QR → lowD n l = true ∧ k.wp P cfg call QD QR
  | [], _, h => ⟨rfl, h⟩
  | d :: l, _, h => by
    rw [klowD] at h
    obtain ⟨h1, h2⟩ := klowL_sound h
    obtain ⟨h3, h4⟩ := klowD_sound h2
    exact ⟨by rw [lowD, h1, h3]; rfl, h4⟩
theorem klowRM_sound {n : Nat} {m : RM} {k : KT} (h : (klowRM n m k).wp P cfg call QD QR) : lowRM n m = true ∧ k.wp P cfg call QD QR := by
  cases m with
  | panicking v b => exact klowV_sound h
  | none => exact ⟨rfl, h⟩
  | returning => exact ⟨rfl, h⟩
theorem klowH_sound {n : Nat} : ∀ {l : Heap} {k : KT}, (klowH n l k).wp P cfg call QD QR → lowss n l = true ∧ k.wp P cfg call QD QR
  | [], _, h => ⟨rfl, h⟩
  | cs :: l, _, h => by
    rw [klowH] at h
    obtain ⟨h1, h2⟩ := klowL_sound h
    obtain ⟨h3, h4⟩ := klowH_sound h2
    exact ⟨by rw [lowss, h1, h3]; rfl, h4⟩
theorem klowSt_sound {n : Nat} {s : St} {k : KT} (h : (klowSt n s k).wp P cfg call QD QR) : lowSt n s = true ∧ k.wp P cfg call QD QR := by
  unfold klowSt at h
  obtain ⟨h1, h⟩ := klowL_sound h
  obtain ⟨h2, h⟩ := klowLh_sound h
  obtain ⟨h3, h⟩ := klowD_sound h
  obtain ⟨h4, h⟩ := klowRM_sound h
  obtain ⟨h5, h⟩ := klowH_sound h
  exact ⟨by unfold lowSt; rw [h1, h2, h3, h4, h5]; rfl, h⟩
theorem kmask_sound {live : Option Nat} {s : St} {k : St → KT} (h : (kmask live s k).wp P cfg call QD QR) : ∃ s0, maskSt live s = some s0 ∧ (k s0).wp P cfg call QD QR := by
  unfold kmask at h
  unfold maskSt
  split at h
  · exact ⟨_, rfl, h⟩
  · rename_i m
    split at h
    · rename_i hall
      simp only [hall, if_true]
      split at h
      · rename_i hc
        obtain ⟨h1, h2⟩ := klowSt_sound h
        simp only [hc]
        refine ⟨_, rfl, ?_⟩
        unfold cutSt
        split
        · rename_i hb
          rw [Nat.ble_eq] at hb
          have : s.g.H.take s.g.base = s.g.H := List.take_of_length_le hb
          rw [this] at h2; exact h2
        · simp only [h1]; exact h2
      · rename_i hc
        simp only [hc]
        exact ⟨_, rfl, h⟩
    · exact h.elim
theorem kcode_sound (hkc : ∀ QD, KCS P cfg call QD QR kc) : ∀ {c : Code} {QD : List (St → Prop)} {b : Nat} {kn : Nat} {s : St} {k : AX → Nat → St → KT}, (kcode P cfg rs kc f b c kn s k).wp P cfg call QD QR → ∃ x kn' s', codeE P cfg call f b c s = some (x, s') ∧ (k x kn' s').wp P cfg call QD QR := by
  intro c
  induction c with
  | skip => intro QD b kn s k h; exact ⟨_, _, _, rfl, h⟩
  | region id ops d =>
    intro QD b kn s k h
    cases d with
    | false =>
      unfold kcode at h
      obtain ⟨x, acc, kn', s', h1, h2⟩ := kops_sound (hkc _) h
      have := aopsC_aops ops.toList 0 [] s x acc s' (by simp) h1
      exact ⟨x, kn', s', by simpa only [codeE, List.drop_zero] using this, h2⟩
    | true =>
      unfold kcode at h
      obtain ⟨x, acc, kn', s', h1, h2⟩ := kops_sound (hkc _) h
      cases x with
      | normal =>
        simp only at h2
        split at h2
        · rename_i hc
          have := aopsC_adraw ops.toList 0 [] [] s acc s' h1 hc
          exact ⟨.normal, kn', s', by simp only [codeE, this], h2⟩
        · exact h2.elim
      | panic v =>
        simp only at h2
        split at h2
        · rename_i v2 s2 hc
          have := aopsC_adrawP ops.toList 0 [] [] s v acc s' _ h1 hc
          exact ⟨.panic v2, 0, maskAll s2, by simp only [codeE, adrawP_none this, this], h2⟩
        · exact h2.elim
      | _ => exact h2.elim
  | seq x y ihx ihy =>
    intro QD b kn s k h
    unfold kcode at h
    split at h
    · rename_i hst
      obtain ⟨r, kn', s', h1, h2⟩ := ihx h
      cases r with
      | normal =>
        obtain ⟨s2, h3, h4⟩ := kmask_sound h2
        obtain ⟨r, kn2, s3, h5, h6⟩ := ihy h4
        exact ⟨r, kn2, s3, by simp only [codeE, h1, h3]; exact h5, h6⟩
      | exit id => exact ⟨_, _, _, by simp only [codeE, h1], h2⟩
      | ret => exact ⟨_, _, _, by simp only [codeE, h1], h2⟩
      | panic v => exact ⟨_, _, _, by simp only [codeE, h1], h2⟩
    · rename_i hst
      have hno : liveAt (cfg f).live (codeKey y) = none := by
        cases e : liveAt (cfg f).live (codeKey y) with
        | none => rfl
        | some m => rw [e] at hst; cases hst
      obtain ⟨r, kn', s', h1, h2⟩ := ihx h
      cases r with
      | normal =>
        obtain ⟨r, kn2, s2, h3, h4⟩ := ihy h2
        exact ⟨r, kn2, s2, by simp only [codeE, h1, hno, maskSt]; exact h3, h4⟩
      | exit id => exact ⟨_, _, _, by simp only [codeE, h1], h2⟩
      | ret => exact ⟨_, _, _, by simp only [codeE, h1], h2⟩
      | panic v => exact ⟨_, _, _, by simp only [codeE, h1], h2⟩
  | cond c x y ihx ihy =>
    intro QD b kn s k h
    cases c with
    | tmp t =>
      simp only [kcode] at h
      split at h
      · rename_i v e
        have he : aeval s.tmps (.tmp t) = .val (.bool v) := by simp only [aeval, List.getD_eq_getElem?_getD, e, Option.getD_some]
        have go : ∀ (v' : Bool) kn', v = v' → (kcode P cfg rs kc f b (match v' with | true => x | false => y) kn' s k).wp P cfg call QD QR → ∃ x_1 kn' s', codeE P cfg call f b (.cond (.tmp t) x y) s = some (x_1, s') ∧ (k x_1 kn' s').wp P cfg call QD QR := by
          intro v' kn' hv h
          subst hv
          cases v with
          | true => obtain ⟨r, kn2, s2, h3, h4⟩ := ihx h; exact ⟨r, kn2, s2, by simp only [codeE, he]; exact h3, h4⟩
          | false => obtain ⟨r, kn2, s2, h3, h4⟩ := ihy h; exact ⟨r, kn2, s2, by simp only [codeE, he]; exact h3, h4⟩
        split at h
        · cases v with
          | true => exact go true _ rfl h
          | false => exact go false _ rfl h
        · rcases kwp_branch h with ⟨rfl, h'⟩ | ⟨rfl, h'⟩
          · rw [ksetB_eq e] at h'; exact go true _ rfl h'
          · rw [ksetB_eq e] at h'; exact go false _ rfl h'
      · exact h.elim
    | _ => exact h.elim
  | block id x ih =>
    intro QD b kn s k h
    unfold kcode at h
    obtain ⟨r, kn', s', h1, h2⟩ := ih h
    cases r with
    | exit i =>
      simp only at h2
      split at h2
      · rename_i e; have e := of_decide_eq_true e
        exact ⟨_, _, _, by simp only [codeE, h1, e, if_true], h2⟩
      · rename_i e; have e := of_decide_eq_false e
        exact ⟨_, _, _, by simp only [codeE, h1, e, if_false], h2⟩
    | normal => exact ⟨_, _, _, by simp only [codeE, h1], h2⟩
    | ret => exact ⟨_, _, _, by simp only [codeE, h1], h2⟩
    | panic v => exact ⟨_, _, _, by simp only [codeE, h1], h2⟩
  | exit id => intro QD b kn s k h; exact ⟨_, _, _, rfl, h⟩
  | ret => intro QD b kn s k h; exact ⟨_, _, _, rfl, h⟩
  | scope x ih => intro QD b kn s k h; unfold kcode at h; obtain ⟨x, kn', s', h1, h2⟩ := ih h; exact ⟨x, kn', s', by simp only [codeE]; exact h1, h2⟩
  | label l => intro QD b kn s k h; exact ⟨_, _, _, rfl, h⟩
  | loop x ih =>
    intro QD b kn s k h
    unfold kcode at h
    obtain ⟨s0, h1, h2⟩ := kmask_sound h
    obtain ⟨r, s', h3, h4⟩ := h2 s h1
    exact ⟨r, 0, s', h3, h4⟩
  | _ => intro QD b kn s k h; exact h.elim
theorem kdefers_sound (hkc : KCS P cfg call QD QR kc) : ∀ {l : List ADef} {m : RM} {H : Heap} {k : RM → Heap → KT}, (kdefers kc l m H k).wp P cfg call QD QR → ∃ m' H', adefers call l m H = some (m', H') ∧ (k m' H').wp P cfg call QD QR := by
  intro l
  induction l with
  | nil => intro m H k h; exact ⟨_, _, rfl, h⟩
  | cons d l ih =>
    intro m H k h
    unfold kdefers at h
    obtain ⟨⟨out, rm', H'⟩, known, h1, h2⟩ := hkc _ _ _ _ _ _ h
    simp only [adefers, h1]
    cases out with
    | ret v => exact ih h2
    | panic v => exact ih h2
theorem kfin_sound (hkc : KCS P cfg call QD QR kc) {fn : Func} {s : St} {m : RM} {k : CRes → KT} (h : (kfin P kc fn s m k).wp P cfg call QD QR) : ∃ r, afinish P call fn s m = some r ∧ (k r).wp P cfg call QD QR := by
  unfold kfin at h
  unfold afinish
  cases hr : s.g.rm with
  | none =>
    simp only [hr] at h ⊢
    obtain ⟨m', H', h1, h2⟩ := kdefers_sound hkc h
    rw [h1]
    cases m' with
    | none => exact h2.elim
    | returning =>
      simp only at h2 ⊢
      cases e : aresults P s H' fn.results.toList with
      | none => rw [e] at h2; exact h2.elim
      | some l => rw [e] at h2; exact ⟨_, rfl, h2⟩
    | panicking v b => cases b with
      | false => exact ⟨_, rfl, h2⟩
      | true => exact h2.elim
  | returning =>
    simp only [hr] at h ⊢
    cases hd : s.g.defers with
    | cons d l => rw [hd] at h; exact h.elim
    | nil =>
      rw [hd] at h
      simp only [List.isEmpty_nil, if_true]
      unfold kfinR at h
      cases m with
      | none => exact h.elim
      | returning =>
        simp only at h ⊢
        cases e : aresults P s s.g.H fn.results.toList with
        | none => rw [e] at h; exact h.elim
        | some l => rw [e] at h; exact ⟨_, rfl, h⟩
      | panicking v b => cases b with
        | false => exact ⟨_, rfl, h⟩
        | true => exact h.elim
  | panicking v0 b0 =>
    simp only [hr] at h ⊢
    cases hd : s.g.defers with
    | cons d l => rw [hd] at h; exact h.elim
    | nil =>
      rw [hd] at h
      simp only [List.isEmpty_nil, if_true]
      unfold kfinR at h
      cases m with
      | none => exact h.elim
      | returning =>
        simp only at h ⊢
        cases e : aresults P s s.g.H fn.results.toList with
        | none => rw [e] at h; exact h.elim
        | some l => rw [e] at h; exact ⟨_, rfl, h⟩
      | panicking v b => cases b with
        | false => exact ⟨_, rfl, h⟩
        | true => exact h.elim
theorem kcut_sound {cut : Option Bool} {rm : RM} {n : Nat} {r : CRes} {k : CRes → KT} (h : (kcut cut rm n r k).wp P cfg call QD QR) : (k (cutRm rm n r)).wp P cfg call QD QR := by
  unfold kcut at h
  cases rm with
  | none =>
    unfold cutRm cutRes
    rcases cut with _ | _ | _
    rotate_left 2
    ·
      obtain ⟨h1, h2⟩ := klowV_sound h
      obtain ⟨h3, h2⟩ := klowH_sound h2
      have h1 : r.out.low n = true := by cases ho : r.out <;> rw [ho] at h1 <;> exact h1
      cases hb : Nat.ble r.H.length n with
      | true =>
        rw [Nat.ble_eq] at hb
        rw [List.take_of_length_le hb] at h2; exact h2
      | false => simp only [h1, h3, Bool.and_self]; exact h2
    · obtain ⟨h1, h2⟩ := h
      cases hb : Nat.ble r.H.length n with
      | true => exact h2
      | false =>
        have h1 : r.out.low n = false := by simpa [hb] using h1
        simp only [h1, Bool.false_and]; exact h2
    · obtain ⟨h1, h2⟩ := h
      simp only [h1]; exact h2
  | _ => exact h
/-- What is asked of calls: that they go by the code. -/
def ByCode (P : Program) (cfg : FuncId → FCfg) (call : CallF) : Prop :=
  ∀ f fn c args rm H r, (cfg f).ext = false → P.funcs[f]? = some fn → fn.body = some c → bodyE P cfg call f fn c args rm H = some r → call f args rm H = some (normRes P (cfg f).norm fn.resultTypes.toList (cutRm rm H.length r))
theorem ev_byCode {ext : Ext} (hx : ∀ f, (cfg f).ext = false → ext f = none) : ByCode P cfg (ev P cfg ext) := fun f fn c args rm H r he hf hb h => ev_body (hx f he) hf hb h
theorem kfun_sound (hbc : ByCode P cfg call) (hkc : ∀ QD, KCS P cfg call QD QR kc) {cut : Option Bool} {args : List AV} {kn : Nat} {rm : RM} {H : Heap} {k : CRes → Bool → KT} (h : (kfun P cfg rs kc cut f args kn rm H k).wp P cfg call QD QR) :
    ∃ r known, call f args rm H = some r ∧ (k r known).wp P cfg call QD QR := by
  unfold kfun at h
  split at h
  · exact h.elim
  rename_i hxt
  split at h
  · exact h.elim
  · rename_i fn hf
    split at h
    · exact h.elim
    · rename_i c hb
      obtain ⟨x, kn, s, h1, h2⟩ := kcode_sound hkc h
      have key : ∃ r, bodyE P cfg call f fn c args rm H = some r ∧ (kcut cut rm H.length r fun r => k (normRes P (cfg f).norm fn.resultTypes.toList r) (kresKnown fn kn)).wp P cfg call QD QR := by
        unfold kstart at h1
        unfold bodyE
        rw [h1]
        unfold kfinX at h2
        cases x with
        | normal => exact kfin_sound (hkc _) h2
        | ret => exact kfin_sound (hkc _) h2
        | panic v => exact kfin_sound (hkc _) h2
        | exit id => exact h2.elim
      obtain ⟨r, h3, h4⟩ := key
      exact ⟨_, _, hbc _ _ _ _ _ _ _ hxt hf hb h3, kcut_sound h4⟩
variable {sh : FuncId → KM}
theorem kcalls_sound (hbc : ByCode P cfg call) : ∀ n QD, KCS P cfg call QD QR (kcalls P cfg rs sh n) := by
  intro n
  induction n with
  | zero =>
    intro QD g args kn rm H k h
    unfold kcalls at h
    split at h
    · exact h.elim
    · exact h.elim
    · obtain ⟨r, h1, h2⟩ := kask_sound h
      exact ⟨r, false, h1, h2⟩
  | succ n ih =>
    intro QD g args kn rm H k h
    unfold kcalls at h
    split at h
    · exact kfun_sound hbc ih h
    · exact kfun_sound hbc ih h
    · obtain ⟨r, h1, h2⟩ := kask_sound h
      exact ⟨r, false, h1, h2⟩
/-- A function does what its tree says. -/
theorem ktree_sound (hbc : ByCode P cfg call) {n : Nat} {cut : Bool} {args : List AV} {rm : RM} {H : Heap} (h : (ktree P cfg rs sh n cut f args rm H).wp P cfg call QD QR) : ∃ r, call f args rm H = some r ∧ QR r := by
  obtain ⟨r, _, h1, h2⟩ := kfun_sound hbc (kcalls_sound hbc n) h
  exact ⟨r, h1, h2⟩
end
end Go.Eng
end

section
/-
  THE ENGINE, part 28: trees of the second kind: loops by their rounds; ways into a tree; aids.
-/
set_option linter.unusedVariables false
set_option linter.unusedSimpArgs false
namespace Go.Eng
def tmFrom2 : Nat → Nat → List (Nat × AV) → List AV
  | _, 0, _ => []
  | i, n + 1, l => (match l.lookup i with | some v => v | none => .any) :: tmFrom2 (i + 1) n l
/-- n slots of which these are known. -/
def tm2 (n : Nat) (l : List (Nat × AV)) : List AV := tmFrom2 0 n l
def lmFrom : Nat → Nat → List (Nat × LCell) → List (Option LCell)
  | _, 0, _ => []
  | i, n + 1, l => l.lookup i :: lmFrom (i + 1) n l
def lm2 (n : Nat) (l : List (Nat × LCell)) : List (Option LCell) := lmFrom 0 n l
def vI (n : Int) : AV := .val (.int .i64 n)
def vB (b : Bool) : AV := .val (.bool b)
def vS (s : ByteArray) : AV := .val (.string s)
/-! ### ways into a tree -/
def KT.T : KT → KT
  | .branch _ t _ => t
  | .alt t _ => t
  | .need _ k => k
  | .row _ _ _ k => k
  | .byte _ _ _ k => k
  | .bytes _ _ k => k
  | .prop _ k => k
  | .call _ _ _ _ _ k => k
  | .out t => t
  | .stage t _ => t
  | t => t
def KT.K : KT → St → KT
  | .stage _ k => k
  | _ => fun _ => .fail
def KT.F : KT → KT
  | .branch _ _ f => f
  | .alt _ f => f
  | t => t
def KT.I : KT → Int → KT
  | .exI k, i => k i
  | t, _ => t
def KT.B : KT → Bool → KT
  | .exB k, i => k i
  | t, _ => t
def KT.S : KT → ByteArray → KT
  | .exS k, i => k i
  | t, _ => t
def KT.R : KT → List (List AV) → KT
  | .exR k, i => k i
  | t, _ => t
def KT.A : KT → AV → KT
  | .exA k, i => k i
  | t, _ => t
def KT.Y : KT → UInt8 → KT
  | .exY k, i => k i
  | t, _ => t
/-- The state at a loop's head. -/
def KT.atLoop : KT → Option St
  | .loop _ _ _ s _ => some s
  | _ => none
section
variable (P : Program) (cfg : FuncId → FCfg) (rs : TypeId → List KSh) (kc : KC)
def kround (live : Option Nat) (k : AX → St → KT) (x : AX) (s : St) : KT :=
  match x with
  | .normal => kmask live s .done
  | .exit id => .out (k (.exit id) s)
  | .ret => .out (k .ret s)
  | .panic v => .out (k (.panic v) s)
/-- A loop's round, from a state at its head. -/
def KT.round (t : KT) (s : St) : KT :=
  match t with
  | .loop f b x _ k => kcode P cfg rs kc f b x 0 s fun r _ s' => kround (liveAt (cfg f).live b) k r s'
  | _ => .fail
end
section
variable {P : Program} {cfg : FuncId → FCfg} {rs : TypeId → List KSh} {call : CallF} {QD : List (St → Prop)} {QR : CRes → Prop} {kc : KC}
theorem kt_loop {σ : Type} {t : KT} (S : σ → St) (Inv : σ → Prop) (m : σ → Nat) (a0 : σ) (hkc : ∀ QD, KCS P cfg call QD QR kc) (h0 : t.atLoop = some (S a0)) (hi : Inv a0)
    (hr : ∀ a, Inv a → (t.round P cfg rs kc (S a)).wp P cfg call ((fun s => ∃ a', (Inv a' ∧ m a' < m a) ∧ s = S a') :: QD) QR) : t.wp P cfg call QD QR := by
  cases t with
  | loop f b x s k =>
    simp only [KT.atLoop, Option.some.injEq] at h0
    intro s1 hs1
    refine WC_loop (fun n s => ∃ a, Inv a ∧ m a = n ∧ s = S a) (m a0) ⟨s, hs1, a0, hi, rfl, h0⟩ ?_
    rintro n s2 ⟨a, ha, rfl, rfl⟩ K hK
    obtain ⟨r, kn, s3, h1, h2⟩ := kcode_sound hkc (hr a ha)
    refine ⟨r, s3, h1, ?_⟩
    cases r with
    | normal =>
      obtain ⟨s4, h3, h4⟩ := kmask_sound h2
      obtain ⟨a', ⟨h5, h6⟩, h7⟩ := h4
      exact hK s3 _ h6 ⟨s4, h3, a', h5, rfl, h7⟩
    | exit id => exact h2
    | ret => exact h2
    | panic v => exact h2
  | _ => cases h0
theorem wp_eq2 {t t' : KT} (h : t = t') (w : t'.wp P cfg call QD QR) : t.wp P cfg call QD QR := h ▸ w
theorem wp_if2 {b : Bool} {t f : KT} (ht : b = true → t.wp P cfg call QD QR) (hf : b = false → f.wp P cfg call QD QR) : (KT.branch b t f).wp P cfg call QD QR := ⟨ht, hf⟩
inductive QLe : List (St → Prop) → List (St → Prop) → Prop
  | nil : QLe [] []
  | cons {Q Q' : St → Prop} {l l'} : (∀ s, Q s → Q' s) → QLe l l' → QLe (Q :: l) (Q' :: l')
theorem QLe.refl : ∀ l, QLe l l
  | [] => .nil
  | _ :: l => .cons (fun _ h => h) (QLe.refl l)
end
section
variable {P : Program} {cfg : FuncId → FCfg} {call : CallF} {Q : St → Prop} {QD : List (St → Prop)} {QR : CRes → Prop}
theorem wp_need {k : KT} (h : k.wp P cfg call QD QR) : (KT.need true k).wp P cfg call QD QR := ⟨rfl, h⟩
theorem wp_out {k : KT} (h : k.wp P cfg call QD QR) : (KT.out k).wp P cfg call (Q :: QD) QR := h
theorem wp_done {s : St} (h : Q s) : (KT.done s).wp P cfg call (Q :: QD) QR := h
theorem wp_stage {t : KT} {k : St → KT} (h : t.wp P cfg call ((fun s => (k s).wp P cfg call QD QR) :: QD) QR) : (KT.stage t k).wp P cfg call QD QR := h
theorem wp_callB2 {g : FuncId} {args : List AV} {H : Heap} {k : Bool → KT} (hc : ∃ i, call g args .none H = some ⟨.ret (vB i), .none, H⟩) (h : ∀ i, (k i).wp P cfg call QD QR) : (KT.exB fun i => .call g args .none H ⟨.ret (vB i), .none, H⟩ (k i)).wp P cfg call QD QR := by
  obtain ⟨i, hi⟩ := hc
  exact ⟨i, hi, h i⟩
end
theorem kw_succ {x : Nat} (h : x < 9223372036854775807) : IntKind.i64.wrap ((x : Int) + 1) = ((x + 1 : Nat) : Int) := by
  rw [IntKind.wrap_i64]; omega
theorem kw_pred {x : Nat} (h : x < 9223372036854775807) : IntKind.i64.wrap (((x + 1 : Nat) : Int) - 1) = (x : Int) := by
  rw [IntKind.wrap_i64]; omega
theorem kw_add {x y : Nat} (h : x + y < 9223372036854775808) : IntKind.i64.wrap ((x : Int) + (y : Int)) = ((x + y : Nat) : Int) := by
  rw [IntKind.wrap_i64]; omega
theorem kmax {a b : Nat} : (if (a : Int) > (b : Int) then (a : Int) else (b : Int)) = ((max b a : Nat) : Int) := by
  split <;> omega
end Go.Eng
end

section
/-
  THE ENGINE, part 29: plain data (CT): numbers, truth values, texts, lists of rows; what comes in is such data.
-/
set_option linter.unusedVariables false
set_option linter.unusedSimpArgs false
namespace Go.Eng
inductive CT where
  | int (k : IntKind) (n : Int)
  | bool (b : Bool)
  | str (s : ByteArray)
  | rows (sz : Nat) (l : List (List CT))
  deriving Inhabited
abbrev Row := List CT
mutual
def CT.av : CT → AV
  | .int k n => .val (.int k n)
  | .bool b => .val (.bool b)
  | .str s => .val (.string s)
  | .rows sz l => .slice sz (avss l) .no
def avs : List CT → List AV
  | [] => []
  | c :: l => c.av :: avs l
def avss : List (List CT) → List (List AV)
  | [] => []
  | r :: l => avs r :: avss l
end
theorem avs_map : ∀ l : List CT, avs l = l.map CT.av
  | [] => rfl
  | c :: l => by rw [avs, avs_map l]; rfl
theorem avss_map : ∀ l : List (List CT), avss l = l.map avs
  | [] => rfl
  | r :: l => by rw [avss, avss_map l]; rfl
theorem avss_len (l : List (List CT)) : (avss l).length = l.length := by rw [avss_map, List.length_map]
theorem avss_at {l : List (List CT)} {i : Nat} {r : List CT} (h : l[i]? = some r) : (avss l)[i]? = some (avs r) := by rw [avss_map, List.getElem?_map, h]; rfl
mutual
theorem low_av (n : Nat) : ∀ c : CT, c.av.low n = true
  | .int _ _ => rfl
  | .bool _ => rfl
  | .str _ => rfl
  | .rows _ l => by rw [CT.av, AV.low]; exact low_avss n l
theorem low_avs (n : Nat) : ∀ l : List CT, lows n (avs l) = true
  | [] => rfl
  | c :: l => by rw [avs, lows, low_av n c, low_avs n l]; rfl
theorem low_avss (n : Nat) : ∀ l : List (List CT), lowss n (avss l) = true
  | [] => rfl
  | r :: l => by rw [avss, lowss, low_avs n r, low_avss n l]; rfl
end
mutual
theorem ren_av (ρ : Nat → Nat) : ∀ c : CT, c.av.ren ρ = c.av
  | .int _ _ => rfl
  | .bool _ => rfl
  | .str _ => rfl
  | .rows _ l => by rw [CT.av, AV.ren, ren_avss ρ l]
theorem ren_avs (ρ : Nat → Nat) : ∀ l : List CT, rens ρ (avs l) = avs l
  | [] => rfl
  | c :: l => by rw [avs, rens, ren_av ρ c, ren_avs ρ l]
theorem ren_avss (ρ : Nat → Nat) : ∀ l : List (List CT), renss ρ (avss l) = avss l
  | [] => rfl
  | r :: l => by rw [avss, renss, ren_avs ρ r, ren_avss ρ l]
end
/-! ### types -/
mutual
inductive Has (P : Program) : TypeId → List CT → Prop
  | int {t : TypeId} {k : IntKind} {n : Int} : P.underlying t = some (.int k) → (Lit.int k n).wf = true → Has P t [.int k n]
  | bool {t : TypeId} {b : Bool} : P.underlying t = some .bool → Has P t [.bool b]
  | str {t : TypeId} {s : ByteArray} : P.underlying t = some .string → s.size ≤ maxLen → Has P t [.str s]
  | slice {t e : TypeId} {l : List (List CT)} : P.underlying t = some (.slice e) → l.length ≤ maxLen → (∀ r ∈ l, Has P e r) → (∀ r ∈ l, r.length = P.cellsOf e) → Has P t [.rows (P.cellsOf e) l]
  | struct {t : TypeId} {fs : Array Field} {l : List CT} : P.underlying t = some (.struct fs) → HasF P (fs.toList.map (·.type)) l → Has P t l
inductive HasF (P : Program) : List TypeId → List CT → Prop
  | nil : HasF P [] []
  | cons {t : TypeId} {ts : List TypeId} {a b : List CT} : Has P t a → HasF P ts b → HasF P (t :: ts) (a ++ b)
end
section
variable {P : Program} {t : TypeId} {l : List CT}
theorem Has.int_inv {k : IntKind} (h : Has P t l) (ht : P.underlying t = some (.int k)) : ∃ n, l = [.int k n] ∧ (Lit.int k n).wf = true := by
  cases h with
  | int h1 h2 => rw [ht] at h1; cases h1; exact ⟨_, rfl, h2⟩
  | bool h1 => rw [ht] at h1; cases h1
  | str h1 => rw [ht] at h1; cases h1
  | slice h1 => rw [ht] at h1; cases h1
  | struct h1 => rw [ht] at h1; cases h1
theorem Has.bool_inv (h : Has P t l) (ht : P.underlying t = some .bool) : ∃ b, l = [.bool b] := by
  cases h with
  | int h1 h2 => rw [ht] at h1; cases h1
  | bool h1 => exact ⟨_, rfl⟩
  | str h1 => rw [ht] at h1; cases h1
  | slice h1 => rw [ht] at h1; cases h1
  | struct h1 => rw [ht] at h1; cases h1
theorem Has.str_inv (h : Has P t l) (ht : P.underlying t = some .string) : ∃ s, l = [.str s] ∧ s.size ≤ maxLen := by
  cases h with
  | int h1 h2 => rw [ht] at h1; cases h1
  | bool h1 => rw [ht] at h1; cases h1
  | str h1 h2 => exact ⟨_, rfl, h2⟩
  | slice h1 => rw [ht] at h1; cases h1
  | struct h1 => rw [ht] at h1; cases h1
theorem Has.slice_inv {e : TypeId} (h : Has P t l) (ht : P.underlying t = some (.slice e)) : ∃ rs, l = [.rows (P.cellsOf e) rs] ∧ rs.length ≤ maxLen ∧ (∀ r ∈ rs, Has P e r) ∧ ∀ r ∈ rs, r.length = P.cellsOf e := by
  cases h with
  | int h1 h2 => rw [ht] at h1; cases h1
  | bool h1 => rw [ht] at h1; cases h1
  | str h1 => rw [ht] at h1; cases h1
  | slice h1 h2 h3 h4 => rw [ht] at h1; cases h1; exact ⟨_, rfl, h2, h3, h4⟩
  | struct h1 => rw [ht] at h1; cases h1
theorem Has.struct_inv {fs : Array Field} (h : Has P t l) (ht : P.underlying t = some (.struct fs)) : HasF P (fs.toList.map (·.type)) l := by
  cases h with
  | int h1 h2 => rw [ht] at h1; cases h1
  | bool h1 => rw [ht] at h1; cases h1
  | str h1 => rw [ht] at h1; cases h1
  | slice h1 => rw [ht] at h1; cases h1
  | struct h1 h2 => rw [ht] at h1; cases h1; exact h2
def structTys (P : Program) (t : TypeId) : Option (List TypeId) :=
  match P.underlying t with
  | some (.struct fs) => some (fs.toList.map (·.type))
  | _ => none
theorem Has.fields {ts : List TypeId} (h : Has P t l) (ht : structTys P t = some ts) : HasF P ts l := by
  unfold structTys at ht
  split at ht
  · rename_i hu
    simp only [Option.some.injEq] at ht; subst ht
    exact h.struct_inv hu
  · cases ht
theorem HasF.cons_inv {ts : List TypeId} (h : HasF P (t :: ts) l) : ∃ a b, l = a ++ b ∧ Has P t a ∧ HasF P ts b := by
  cases h with
  | cons h1 h2 => exact ⟨_, _, rfl, h1, h2⟩
theorem HasF.nil_inv (h : HasF P [] l) : l = [] := by cases h; rfl
theorem HasF.int {ts : List TypeId} {k : IntKind} (h : HasF P (t :: ts) l) (ht : P.underlying t = some (.int k)) : ∃ n r, l = .int k n :: r ∧ (Lit.int k n).wf = true ∧ HasF P ts r := by
  obtain ⟨a, b, rfl, h1, h2⟩ := h.cons_inv
  obtain ⟨n, rfl, hw⟩ := h1.int_inv ht
  exact ⟨n, b, rfl, hw, h2⟩
theorem HasF.bool {ts : List TypeId} (h : HasF P (t :: ts) l) (ht : P.underlying t = some .bool) : ∃ n r, l = .bool n :: r ∧ HasF P ts r := by
  obtain ⟨a, b, rfl, h1, h2⟩ := h.cons_inv
  obtain ⟨n, rfl⟩ := h1.bool_inv ht
  exact ⟨n, b, rfl, h2⟩
theorem HasF.str {ts : List TypeId} (h : HasF P (t :: ts) l) (ht : P.underlying t = some .string) : ∃ n r, l = .str n :: r ∧ n.size ≤ maxLen ∧ HasF P ts r := by
  obtain ⟨a, b, rfl, h1, h2⟩ := h.cons_inv
  obtain ⟨n, rfl, hw⟩ := h1.str_inv ht
  exact ⟨n, b, rfl, hw, h2⟩
theorem HasF.slice {ts : List TypeId} {e : TypeId} (h : HasF P (t :: ts) l) (ht : P.underlying t = some (.slice e)) (sz : Nat) (hsz : P.cellsOf e = sz) : ∃ rs r, l = .rows sz rs :: r ∧ rs.length ≤ maxLen ∧ (∀ r ∈ rs, Has P e r) ∧ HasF P ts r := by
  obtain ⟨a, b, rfl, h1, h2⟩ := h.cons_inv
  obtain ⟨n, rfl, h3, h4, h5⟩ := h1.slice_inv ht
  subst hsz
  exact ⟨n, b, rfl, h3, h4, h2⟩
end
/-! ### bulk -/
mutual
def CT.bulk : CT → Nat
  | .int _ _ => 1
  | .bool _ => 1
  | .str s => s.size + 1
  | .rows _ l => bulkss l + 1
def bulks : List CT → Nat
  | [] => 0
  | c :: l => c.bulk + bulks l
def bulkss : List (List CT) → Nat
  | [] => 0
  | r :: l => bulks r + bulkss l
end
mutual
def bulkD {H : Type} : DataW H → Nat
  | .lit (.string bytes) => bytes.length + 1
  | .lit _ => 1
  | .nil => 1
  | .ptr d => bulkD d + 1
  | .slice elems spare => bulkDs elems + bulkDs spare + 1
  | .agg parts => bulkDs parts + 1
  | .iface _ d => bulkD d + 1
  | .map entries => bulkDe entries + 1
  | .held _ => 1
def bulkDs {H : Type} : List (DataW H) → Nat
  | [] => 0
  | d :: r => bulkD d + bulkDs r
def bulkDe {H : Type} : List (Lit × DataW H) → Nat
  | [] => 0
  | x :: r => bulkDx x + bulkDe r
def bulkDx {H : Type} : Lit × DataW H → Nat
  | (.string bytes, d) => bytes.length + bulkD d + 1
  | (_, d) => bulkD d + 1
end
theorem bulks_append (a b : List CT) : bulks (a ++ b) = bulks a + bulks b := by
  induction a with
  | nil => simp [bulks]
  | cons c a ih => simp only [List.cons_append, bulks, ih]; omega
theorem bulkss_mem {l : List (List CT)} {r : List CT} (h : r ∈ l) : bulks r ≤ bulkss l := by
  induction l with
  | nil => cases h
  | cons a l ih =>
    rw [bulkss]
    rcases List.mem_cons.1 h with rfl | h
    · omega
    · have := ih h; omega
theorem bulk_pos (c : CT) : 0 < c.bulk := by cases c <;> simp [CT.bulk]
theorem len_bulks (l : List CT) : l.length ≤ bulks l := by
  induction l with
  | nil => simp [bulks]
  | cons c l ih => have := bulk_pos c; simp only [List.length_cons, bulks]; omega
/-! ### layouts -/
def layF (P : Program) : Nat → List Field → Option Nat
  | o, [] => some o
  | o, f :: r => if f.offset = o then layF P (o + P.cellsOf f.type) r else none
/-- A set of types that is closed: numbers, truth values, texts, slices and structs of such. -/
def plainTy (P : Program) (ts : List TypeId) (t : TypeId) : Bool :=
  match P.underlying t with
  | some (.int _) => true
  | some .bool => true
  | some .string => true
  | some (.slice e) => ts.contains e && decide (0 < P.cellsOf e)
  | some (.struct fs) => (fs.toList.all fun f => ts.contains f.type) && (layF P 0 fs.toList == some (P.cellsOf t))
  | _ => false
def plainTys (P : Program) (ts : List TypeId) : Bool := ts.all (plainTy P ts)
section
variable {H : Type} {enc : TypeId × Value → H} {P : Program} {w : World} {spare : Nat → Bool} {held : Bool}
/-- What is opened of cells. -/
def Opened (P : Program) (w : World) (t : TypeId) (cs : List Value) (b : Nat) : Prop :=
  ∃ l : List CT, RepL (memOf w) [] cs (avs l) ∧ OneCells cs ∧ Has P t l ∧ bulks l ≤ b
theorem avs_append (a b : List CT) : avs (a ++ b) = avs a ++ avs b := by simp only [avs_map, List.map_append]
theorem fields_open {n : Nat} {cs : List Value} (each : ∀ t cs x, DataW.trod enc P w 0 spare held n t cs = some x → ∀ {ts : List TypeId}, t ∈ ts → plainTys P ts = true → Opened P w t cs (bulkD x.1)) {ts : List TypeId} (hts : plainTys P ts = true) :
    ∀ (l : List Field) (o e : Nat) (xs : List (DataW H × List MemPlace)), layF P o l = some e → (∀ f ∈ l, f.type ∈ ts) → xs.length = l.length → e ≤ cs.length →
      (∀ (i : Nat) f, l[i]? = some f → DataW.trod enc P w 0 spare held n f.type ((cs.drop f.offset).take (P.cellsOf f.type)) = xs[i]?) →
      o ≤ e ∧ ∃ r : List CT, RepL (memOf w) [] ((cs.drop o).take (e - o)) (avs r) ∧ OneCells ((cs.drop o).take (e - o)) ∧ HasF P (l.map (·.type)) r ∧ bulks r ≤ bulkDs (xs.map (·.1)) := by
  intro l
  induction l with
  | nil =>
    intro o e xs hl _ hx he _
    simp only [layF, Option.some.injEq] at hl; subst hl
    refine ⟨Nat.le_refl _, [], ?_, ?_, .nil, Nat.zero_le _⟩
    · rw [Nat.sub_self, List.take_zero]; exact .nil
    · rw [Nat.sub_self, List.take_zero]; intro v hv; cases hv
  | cons f l ih =>
    intro o e xs hl hm hx he hf
    simp only [layF] at hl
    split at hl
    · rename_i ho
      cases xs with
      | nil => simp at hx
      | cons x xs =>
        obtain ⟨h1, r, r1, r2, r3, r4⟩ := ih (o + P.cellsOf f.type) e xs hl (fun g hg => hm g (by simp [hg])) (by simpa using hx) he (fun i g hg => by
          have := hf (i + 1) g (by simpa using hg)
          simpa using this)
        have h0 := hf 0 f rfl
        simp only [List.getElem?_cons_zero] at h0
        obtain ⟨a, a1, a2, a3, a4⟩ := each _ _ _ h0 (hm f (by simp)) hts
        rw [ho] at a1 a2
        have hsplit : (cs.drop o).take (e - o) = (cs.drop o).take (P.cellsOf f.type) ++ (cs.drop (o + P.cellsOf f.type)).take (e - (o + P.cellsOf f.type)) := by
          have e1 : e - o = P.cellsOf f.type + (e - (o + P.cellsOf f.type)) := by omega
          rw [e1, List.take_add, List.drop_drop]
        refine ⟨by omega, a ++ r, ?_, ?_, .cons a3 r3, ?_⟩
        · rw [hsplit, avs_append]; exact a1.append r1
        · rw [hsplit]
          intro v hv
          rcases List.mem_append.1 hv with h | h
          · exact a2 v h
          · exact r2 v h
        · rw [bulks_append]
          simp only [List.map_cons, bulkDs]; omega
    · cases hl
theorem opens : ∀ (fuel : Nat) t cs x, DataW.trod enc P w 0 spare held fuel t cs = some x → ∀ {ts : List TypeId}, t ∈ ts → plainTys P ts = true → Opened P w t cs (bulkD x.1) := by
  intro fuel
  induction fuel using Nat.strongRecOn with
  | _ fuel ih =>
    intro t cs x h ts ht hts
    have hp : plainTy P ts t = true := List.all_eq_true.1 hts t ht
    unfold plainTy at hp
    split at hp
    · rename_i k hu
      obtain ⟨n, rfl, rfl, hw⟩ := DataW.trod_int hu h
      exact ⟨[.int k n], .val _ .nil, fun v hv => by simp at hv; subst hv; rfl, .int hu hw, by simp [bulks, CT.bulk, bulkD]⟩
    · rename_i hu
      obtain ⟨b, rfl, rfl⟩ := DataW.trod_bool hu h
      exact ⟨[.bool b], .val _ .nil, fun v hv => by simp at hv; subst hv; rfl, .bool hu, by simp [bulks, CT.bulk, bulkD]⟩
    · rename_i hu
      obtain ⟨s, rfl, rfl, hl⟩ := DataW.trod_string hu h
      refine ⟨[.str s], .val _ .nil, fun v hv => by simp at hv; subst hv; rfl, .str hu hl, ?_⟩
      simp only [bulks, CT.bulk, bulkD, Array.length_toList]
      exact Nat.le_refl _
    · rename_i e hu
      simp only [Bool.and_eq_true, decide_eq_true_eq, List.contains_iff_mem] at hp
      obtain ⟨he, hpos⟩ := hp
      rcases DataW.trod_slice hu h with ⟨rfl, rfl⟩ | ⟨a, len, cap, elems, rest, n, rfl, rfl, rfl, _, hl, hm, hlen, hel, _, _⟩
      · exact ⟨[.rows (P.cellsOf e) []], .slice0 _ _ .nil, fun v hv => by simp at hv; subst hv; rfl, .slice hu (Nat.zero_le _) (fun r hr => by cases hr) (fun r hr => by cases hr), by simp [bulks, CT.bulk, bulkD, bulkss]⟩
      · have h1 : OneCells [Value.slice (some a) len cap] := fun v hv => by simp at hv; subst hv; rfl
        by_cases h0 : len = 0
        · subst h0
          refine ⟨[.rows (P.cellsOf e) []], .slice1 a cap _ .no (.inl rfl) .nil, h1, .slice hu (Nat.zero_le _) (fun r hr => by cases hr) (fun r hr => by cases hr), ?_⟩
          simp only [bulks, CT.bulk, bulkD, bulkss]; omega
        · have get : ∀ i, i < len → ∃ cs y, elems[i]? = some y ∧ w.cells? 0 (a.add (i * P.cellsOf e)) (P.cellsOf e) = some cs ∧ DataW.trod enc P w 0 spare held n e cs = some y := by
            intro i hi
            have hb := hel i hi
            rw [List.getElem?_eq_getElem (by omega), Option.bind_eq_some_iff] at hb
            obtain ⟨cs, hcs, hy⟩ := hb
            exact ⟨cs, _, List.getElem?_eq_getElem (by omega), hcs, hy⟩
          have hspot : a.spot = none := by
            obtain ⟨cs, y, _, hcs, _⟩ := get 0 (by omega)
            obtain ⟨_, hl2, hc⟩ := World.cells?_some hcs
            have := hc 0 hpos
            have hlt : 0 < cs.length := by omega
            rw [List.getElem?_eq_getElem hlt] at this
            unfold World.cell? at this
            split at this
            · split at this
              · cases this
              · rename_i hs; simpa [Addr.add] using hs
            · cases this
          obtain ⟨b, o, sp⟩ := a
          simp only at hspot; subst hspot
          -- row by row
          have rows : ∀ (k o' i0 : Nat), i0 + k = len → o' = o + i0 * P.cellsOf e → ∃ (ws : List Value) (l : List (List CT)), l.length = k ∧ ReadAt (memOf w) b o' ws ∧ RepL (memOf w) [] ws (avss l).flatten ∧ (∀ r ∈ l, Has P e r ∧ r.length = P.cellsOf e) ∧ bulkss l ≤ bulkDs ((elems.drop i0).map (·.1)) := by
            intro k
            induction k with
            | zero => intro o' i0 _ _; exact ⟨[], [], rfl, (fun i v h => by simp at h), .nil, (fun r hr => by simp at hr), Nat.zero_le _⟩
            | succ k ihk =>
              intro o' i0 hk ho'
              obtain ⟨cs, y, hy, hcs, htr⟩ := get i0 (by omega)
              obtain ⟨r, r1, r2, r3, r4⟩ := ih n (Nat.lt_succ_self n) e cs y htr he hts
              obtain ⟨ws, l, e1, e2, e3, e4, e5⟩ := ihk (o' + P.cellsOf e) (i0 + 1) (by omega) (by rw [ho', Nat.succ_mul]; omega)
              obtain ⟨_, hl2, hc⟩ := World.cells?_some hcs
              have hlen2 : cs.length = P.cellsOf e := hl2
              refine ⟨cs ++ ws, r :: l, by simp [e1], ?_, ?_, ?_, ?_⟩
              · intro i v hv
                rcases Nat.lt_or_ge i cs.length with hlt | hge
                · rw [List.getElem?_append_left hlt] at hv
                  refine memOf_at ?_ (r2 v (List.mem_of_getElem? hv))
                  have := hc i (by omega)
                  rw [hv, add_addr, add_addr] at this
                  rw [ho']; exact this
                · rw [List.getElem?_append_right hge] at hv
                  have := e2 (i - cs.length) v hv
                  have e : o' + P.cellsOf e + (i - cs.length) = o' + i := by omega
                  rwa [e] at this
              · simp only [avss, List.flatten_cons]
                exact r1.append e3
              · intro q hq
                rcases List.mem_cons.1 hq with rfl | hq
                · refine ⟨r3, ?_⟩
                  have := r1.length
                  rw [avs_map, List.length_map] at this
                  omega
                · exact e4 q hq
              · have hd : elems.drop i0 = y :: elems.drop (i0 + 1) := by
                  rw [List.drop_eq_getElem_cons (by omega)]
                  rw [List.getElem?_eq_getElem (by omega)] at hy
                  simp only [Option.some.injEq] at hy
                  rw [hy]
                rw [hd]
                simp only [List.map_cons, bulkDs, bulkss]; omega
          obtain ⟨ws, l, e1, e2, e3, e4, e5⟩ := rows len o 0 (by omega) (by omega)
          have := RepL.slice (I := memOf w) (μ := []) (vs := []) (as := []) b o cap (P.cellsOf e) ws (avss l) .no e2 e3 (fun r hr => by
            rw [avss_map] at hr
            obtain ⟨x, hx, rfl⟩ := List.mem_map.1 hr
            rw [avs_map, List.length_map]
            exact (e4 x hx).2) (by rw [avss_len, e1]; exact hl) (fun h => by cases h) .nil
          rw [avss_len, e1] at this
          refine ⟨[.rows (P.cellsOf e) l], this, h1, .slice hu (by omega) (fun r hr => (e4 r hr).1) (fun r hr => (e4 r hr).2), ?_⟩
          simp only [bulks, CT.bulk, bulkD, List.drop_zero] at e5 ⊢
          omega
    · rename_i fs hu
      simp only [Bool.and_eq_true, beq_iff_eq, List.all_eq_true, List.contains_iff_mem] at hp
      obtain ⟨hm, hlay⟩ := hp
      obtain ⟨xs, n, rfl, rfl, hl, hxl, hf⟩ := DataW.trod_struct hu h
      obtain ⟨_, r, r1, r2, r3, r4⟩ := fields_open (fun t cs x h => ih n (Nat.lt_succ_self n) t cs x h) hts fs.toList 0 (P.cellsOf t) xs hlay hm (by simpa using hxl) (by omega) (fun i f hif => hf i f (by simpa using hif))
      have e : (cs.drop 0).take (P.cellsOf t - 0) = cs := by rw [List.drop_zero, Nat.sub_zero, List.take_of_length_le (by omega)]
      rw [e] at r1 r2
      refine ⟨r, r1, r2, .struct hu r3, ?_⟩
      simp only [bulkD]; omega
    · cases hp
end
end Go.Eng
end
