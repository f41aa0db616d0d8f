/-
  THE ENGINE, part 18: what code comes to, told forward (WC, WO): one rule for each form of code and of operation.
-/
import Derived.Test.YtnohjjhgdkpgcaaDoorE17
set_option linter.unusedVariables false
set_option linter.unusedSimpArgs false
namespace Go.Eng

/-- A guard's value. -/
def gval (dsts : List (Option Tmp)) (T : List AV) (j : Nat) : Option AV :=
  match dsts.getD j none with
  | none => some (.val undef)
  | some t => match T[t]? with
    | none => some (.val undef)
    | some v => some v

def wantedG (dsts : List (Option Tmp)) (o : Oper) (T : List AV) : Option Bool :=
  match o.guard with
  | none => some true
  | some (j, want) => match gval dsts T j with
    | some (.val (.bool b)) => some (b == want)
    | some (.val _) => some false
    | _ => none

section
variable (P : Program) (cfg : FuncId → FCfg) (call : CallF)

/-- Operations one behind the other; of each what it looked at. -/
def aopsC (f : FuncId) (dsts : List (Option Tmp)) : List Oper → List (Option Cls) → St → Option (AX × List (Option Cls) × St)
  | [], acc, s => some (.normal, acc, s)
  | o :: r, acc, s => match wantedG dsts o s.tmps with
    | some true => match aop P cfg call f o s with
      | some (.next s') => aopsC f dsts r (some (acls cfg f o (vals s.tmps o.op.operands.toList (moves cfg f o))) :: acc) s'
      | some (.panic v s') => some (.panic v, acc, s')
      | none => none
    | some false => aopsC f dsts r (none :: acc) { s with tmps := putT s.tmps o.dst (.val undef) }
    | none => none

def sR (f : FuncId) (dsts : List (Option Tmp)) (o : Oper) (c : Option Cls) : Nat :=
  tmpBits o.op.operands.toList ||| optBit (match o.guard with | none => none | some (j, _) => dsts.getD j none) |||
    match c with
    | some .pure => 0
    | some (.loc l _) => 2 ^ (2 * l + 1)
    | some (.glob _) => 1
    | none => 0

def sW (f : FuncId) (o : Oper) (c : Option Cls) : Nat :=
  optBit o.dst ||| listBits (movedTmps o.op.operands.toList (moves cfg f o)) |||
    match c with
    | some (.loc l true) => 2 ^ (2 * l + 1)
    | some (.glob true) => 1
    | _ => 0

/-- May a drawn region's operations be told in the text's order? -/
def checkD (f : FuncId) (dsts : List (Option Tmp)) : List Oper → List (Option Cls) → (i : Nat) → (ancs : List Nat) → (foot : List (Nat × Nat)) → Bool
  | o :: r, c :: cl, i, ancs, foot =>
    edgesDown i o.after.toList && apartFrom (ancBits ancs o.after.toList) (sR f dsts o c) (sW cfg f o c) 0 foot &&
      checkD f dsts r cl (i + 1) (ancs ++ [ancBits ancs o.after.toList]) (foot ++ [(sR f dsts o c, sW cfg f o c)])
  | _, _, _, _, _ => true

def WO (f : FuncId) (dsts : List (Option Tmp)) (l : List Oper) (acc : List (Option Cls)) (Q : List (Option Cls) → AX → St → Prop) (s : St) : Prop :=
  ∃ x acc' s', aopsC P cfg call f dsts l acc s = some (x, acc', s') ∧ Q acc' x s'

def WC (f : FuncId) (b : Nat) (c : Code) (Q : AX → St → Prop) (s : St) : Prop := ∃ x s', codeE P cfg call f b c s = some (x, s') ∧ Q x s'
end

section
variable {P : Program} {cfg : FuncId → FCfg} {call : CallF} {f : FuncId}

theorem wantedG_eq (ops : Array Oper) (o : Oper) (T : List AV) : wantedG (ops.toList.map (·.dst)) o T = wantedA ops o T := by
  unfold wantedG wantedA
  cases hg : o.guard with
  | none => rfl
  | some p =>
    obtain ⟨j, want⟩ := p
    simp only [gval]
    have e : (ops.toList.map (·.dst)).getD j none = (ops[j]?).bind (·.dst) := by
      rw [List.getD_eq_getElem?_getD, List.getElem?_map, Array.getElem?_toList]
      cases ops[j]? <;> rfl
    rw [e]
    cases (ops[j]?).bind (·.dst) with
    | none => rfl
    | some t =>
      simp only
      cases T[t]? with
      | none => rfl
      | some v =>
        cases v with
        | val u => cases u <;> rfl
        | _ => rfl

theorem aopsC_aops {ops : Array Oper} : ∀ (l : List Oper) (i : Nat) (acc : List (Option Cls)) (s : St) (x : AX) (acc' : List (Option Cls)) (s' : St), ops.toList.drop i = l → aopsC P cfg call f (ops.toList.map (·.dst)) l acc s = some (x, acc', s') →
    aops P cfg call f ops ((List.range ops.size).drop i) s = some (x, s') := by
  intro l
  induction l with
  | nil =>
    intro i acc s x acc' s' hl h
    simp only [aopsC, Option.some.injEq, Prod.mk.injEq] at h
    obtain ⟨rfl, _, rfl⟩ := h
    have : ops.toList.length ≤ i := List.drop_eq_nil_iff.1 hl
    rw [List.drop_of_length_le (by simpa using this)]; rfl
  | cons o r ih =>
    intro i acc s x acc' s' hl h
    have hi : i < ops.toList.length := by
      rcases Nat.lt_or_ge i ops.toList.length with h | h
      · exact h
      · rw [List.drop_of_length_le h] at hl; cases hl
    have hi' : i < ops.size := by simpa using hi
    rw [List.drop_eq_getElem_cons hi] at hl
    simp only [List.cons.injEq] at hl
    rw [List.drop_eq_getElem_cons (by simpa using hi')]
    simp only [List.getElem_range, aops]
    have ho : ops[i]? = some o := by rw [← Array.getElem?_toList, List.getElem?_eq_getElem hi, hl.1]
    simp only [ho, astep, ← wantedG_eq]
    simp only [aopsC] at h
    split at h
    · rename_i hw
      simp only [hw]
      split at h
      · rename_i e; simp only [e]; exact ih _ _ _ _ _ _ hl.2 h
      · rename_i e
        simp only [Option.some.injEq, Prod.mk.injEq] at h
        obtain ⟨rfl, _, rfl⟩ := h
        simp only [e]
      · cases h
    · rename_i hw
      simp only [hw]
      exact ih _ _ _ _ _ _ hl.2 h
    · cases h

theorem aopsC_acc {dsts : List (Option Tmp)} : ∀ (l : List Oper) (acc : List (Option Cls)) (s : St) (x : AX) (acc' : List (Option Cls)) (s' : St), aopsC P cfg call f dsts l acc s = some (x, acc', s') → ∃ new, acc' = new ++ acc ∧
    ∀ acc2, aopsC P cfg call f dsts l acc2 s = some (x, new ++ acc2, s') := by
  intro l
  induction l with
  | nil =>
    intro acc s x acc' s' h
    simp only [aopsC, Option.some.injEq, Prod.mk.injEq] at h
    obtain ⟨rfl, rfl, rfl⟩ := h
    exact ⟨[], rfl, fun _ => rfl⟩
  | cons o r ih =>
    intro acc s x acc' s' h
    simp only [aopsC] at h ⊢
    split at h
    · split at h
      · obtain ⟨new, e1, e2⟩ := ih _ _ _ _ _ h
        exact ⟨new ++ [some (acls cfg f o (vals s.tmps o.op.operands.toList (moves cfg f o)))], by rw [e1]; simp, fun acc2 => by rw [e2]; simp⟩
      · simp only [Option.some.injEq, Prod.mk.injEq] at h
        obtain ⟨rfl, rfl, rfl⟩ := h
        exact ⟨[], rfl, fun _ => rfl⟩
      · cases h
    · obtain ⟨new, e1, e2⟩ := ih _ _ _ _ _ h
      exact ⟨new ++ [none], by rw [e1]; simp, fun acc2 => by rw [e2]; simp⟩
    · cases h

theorem aopsC_adraw {ops : Array Oper} : ∀ (l : List Oper) (i : Nat) (ancs : List Nat) (foot : List (Nat × Nat)) (s : St) (cl : List (Option Cls)) (s' : St), aopsC P cfg call f (ops.toList.map (·.dst)) l [] s = some (.normal, cl, s') →
    checkD cfg f (ops.toList.map (·.dst)) l cl.reverse i ancs foot = true → adraw P cfg call f ops l i ancs foot s = some s' := by
  intro l
  induction l with
  | nil =>
    intro i ancs foot s cl s' h _
    simp only [aopsC, Option.some.injEq, Prod.mk.injEq] at h
    obtain ⟨_, _, rfl⟩ := h
    rfl
  | cons o r ih =>
    intro i ancs foot s cl s' h hc
    have hgt : (match o.guard with | none => none | some (j, _) => (ops.toList.map (·.dst)).getD j none) = guardTmp ops o := by
      unfold guardTmp
      cases o.guard with
      | none => rfl
      | some p =>
        obtain ⟨j, want⟩ := p
        simp only [List.getD_eq_getElem?_getD, List.getElem?_map, Array.getElem?_toList]
        cases ops[j]? <;> rfl
    simp only [aopsC] at h
    split at h
    · rename_i hw
      split at h
      · rename_i s1 e
        obtain ⟨new, e1, e2⟩ := aopsC_acc _ _ _ _ _ _ h
        subst e1
        simp only [List.reverse_append, List.reverse_cons, List.reverse_nil, List.nil_append, List.cons_append, checkD, Bool.and_eq_true] at hc
        have h2 := e2 []
        simp only [List.append_nil] at h2
        have hR : footR cfg f ops o s = sR f (ops.toList.map (·.dst)) o (some (acls cfg f o (vals s.tmps o.op.operands.toList (moves cfg f o)))) := by
          unfold footR sR
          rw [hgt, ← wantedG_eq, hw]
          cases acls cfg f o (vals s.tmps o.op.operands.toList (moves cfg f o)) <;> rfl
        have hW : footW cfg f ops o s = sW cfg f o (some (acls cfg f o (vals s.tmps o.op.operands.toList (moves cfg f o)))) := by
          unfold footW sW
          rw [← wantedG_eq, hw]
          generalize acls cfg f o (vals s.tmps o.op.operands.toList (moves cfg f o)) = c
          cases c with
          | pure => rfl
          | loc l w => cases w <;> rfl
          | glob w => cases w <;> rfl
        simp only [adraw, hR, hW]
        rw [if_pos ⟨hc.1.1, hc.1.2⟩]
        simp only [astep, ← wantedG_eq, hw, e]
        exact ih _ _ _ _ _ _ h2 hc.2
      · simp at h
      · cases h
    · rename_i hw
      obtain ⟨new, e1, e2⟩ := aopsC_acc _ _ _ _ _ _ h
      subst e1
      simp only [List.reverse_append, List.reverse_cons, List.reverse_nil, List.nil_append, List.cons_append, checkD, Bool.and_eq_true] at hc
      have h2 := e2 []
      simp only [List.append_nil] at h2
      have hR : footR cfg f ops o s = sR f (ops.toList.map (·.dst)) o none := by
        unfold footR sR
        rw [hgt, ← wantedG_eq, hw]
      have hW : footW cfg f ops o s = sW cfg f o none := by
        unfold footW sW
        rw [← wantedG_eq, hw]
      simp only [adraw, hR, hW]
      rw [if_pos ⟨hc.1.1, hc.1.2⟩]
      simp only [astep, ← wantedG_eq, hw]
      exact ih _ _ _ _ _ _ h2 hc.2
    · cases h

/-! ### code -/

theorem WC_mono {b : Nat} {c : Code} {Q Q' : AX → St → Prop} {s : St} (h : WC P cfg call f b c Q s) (hq : ∀ x s, Q x s → Q' x s) : WC P cfg call f b c Q' s := by
  obtain ⟨x, s', h1, h2⟩ := h; exact ⟨x, s', h1, hq _ _ h2⟩

theorem WC_skip {b : Nat} {Q : AX → St → Prop} {s : St} (h : Q .normal s) : WC P cfg call f b .skip Q s := ⟨_, _, rfl, h⟩
theorem WC_exit {b id : Nat} {Q : AX → St → Prop} {s : St} (h : Q (.exit id) s) : WC P cfg call f b (.exit id) Q s := ⟨_, _, rfl, h⟩
theorem WC_ret {b : Nat} {Q : AX → St → Prop} {s : St} (h : Q .ret s) : WC P cfg call f b .ret Q s := ⟨_, _, rfl, h⟩

/-- The way on, where a part of code goes on at all. -/
def Then (K : St → Prop) (Q : AX → St → Prop) : AX → St → Prop
  | .normal, s => K s
  | x, s => Q x s

theorem WC_seq {b : Nat} {c d : Code} {Q : AX → St → Prop} {s : St} (h : ∀ K : St → Prop, (∀ s s', maskSt (liveAt (cfg f).live (codeKey d)) s = some s' → WC P cfg call f b d Q s' → K s) → WC P cfg call f b c (Then K Q) s) : WC P cfg call f b (.seq c d) Q s := by
  obtain ⟨x, s1, h1, h2⟩ := h (fun s => ∃ s', maskSt (liveAt (cfg f).live (codeKey d)) s = some s' ∧ WC P cfg call f b d Q s') fun s s' hm h => ⟨s', hm, h⟩
  cases x with
  | normal => obtain ⟨s', hm, y, s2, h3, h4⟩ := h2; exact ⟨y, s2, by simp only [codeE, h1, hm]; exact h3, h4⟩
  | exit id => exact ⟨_, s1, by simp only [codeE, h1], h2⟩
  | ret => exact ⟨_, s1, by simp only [codeE, h1], h2⟩
  | panic v => exact ⟨_, s1, by simp only [codeE, h1], h2⟩

theorem WC_cond {b : Nat} {x : Operand} {c d : Code} {Q : AX → St → Prop} {s : St} (t : Bool) (hx : aeval s.tmps x = .val (.bool t)) (h1 : t = true → WC P cfg call f b c Q s) (h2 : t = false → WC P cfg call f b d Q s) :
    WC P cfg call f b (.cond x c d) Q s := by
  cases t with
  | true => obtain ⟨y, s', h3, h4⟩ := h1 rfl; exact ⟨y, s', by simp only [codeE, hx]; exact h3, h4⟩
  | false => obtain ⟨y, s', h3, h4⟩ := h2 rfl; exact ⟨y, s', by simp only [codeE, hx]; exact h3, h4⟩

/-- Out of a block. -/
def Out' (id : Nat) (Q : AX → St → Prop) : AX → St → Prop
  | .exit id', s => if id' = id then Q .normal s else Q (.exit id') s
  | x, s => Q x s

theorem WC_block {b id : Nat} {c : Code} {Q : AX → St → Prop} {s : St} (h : WC P cfg call f id c (Out' id Q) s) : WC P cfg call f b (.block id c) Q s := by
  obtain ⟨x, s1, h1, h2⟩ := h
  cases x with
  | exit id' =>
    by_cases e : id' = id
    · simp only [Out', e, if_true] at h2; exact ⟨.normal, s1, by simp only [codeE, h1, e, if_true], h2⟩
    · simp only [Out', e, if_false] at h2; exact ⟨.exit id', s1, by simp only [codeE, h1, e, if_false], h2⟩
  | normal => exact ⟨_, s1, by simp only [codeE, h1], h2⟩
  | ret => exact ⟨_, s1, by simp only [codeE, h1], h2⟩
  | panic v => exact ⟨_, s1, by simp only [codeE, h1], h2⟩

/-- A loop, by what holds at its head (behind the mask) and a measure. -/
theorem WC_loop {b : Nat} {c : Code} {Q : AX → St → Prop} {s : St} (I : Nat → St → Prop) (n : Nat) (h0 : ∃ s0, maskSt (liveAt (cfg f).live b) s = some s0 ∧ I n s0)
    (hr : ∀ n s, I n s → ∀ K : St → Prop, (∀ s' m, m < n → (∃ s0, maskSt (liveAt (cfg f).live b) s' = some s0 ∧ I m s0) → K s') → WC P cfg call f b c (Then K Q) s) : WC P cfg call f b (.loop c) Q s := by
  have key : ∀ n s, (∃ s0, maskSt (liveAt (cfg f).live b) s = some s0 ∧ I n s0) → ∃ x s', loopE (liveAt (cfg f).live b) (codeE P cfg call f b c) s = some (x, s') ∧ Q x s' := by
    intro n
    induction n using Nat.strongRecOn with
    | _ n ih =>
      intro s ⟨s0, hm, hI⟩
      obtain ⟨x, s1, h1, h2⟩ := hr n s0 hI (fun s' => ∃ m, m < n ∧ ∃ s0, maskSt (liveAt (cfg f).live b) s' = some s0 ∧ I m s0) (fun s' m hm h => ⟨m, hm, h⟩)
      cases x with
      | normal =>
        obtain ⟨m, hmn, h3⟩ := h2
        obtain ⟨y, s2, h4, h5⟩ := ih m hmn s1 h3
        exact ⟨y, s2, loopE_step hm h1 h4, h5⟩
      | exit id => exact ⟨_, s1, loopE_end hm h1 (by simp), h2⟩
      | ret => exact ⟨_, s1, loopE_end hm h1 (by simp), h2⟩
      | panic v => exact ⟨_, s1, loopE_end hm h1 (by simp), h2⟩
  obtain ⟨x, s', h1, h2⟩ := key n s h0
  exact ⟨x, s', by simpa only [codeE] using h1, h2⟩

theorem WC_region {b id : Nat} {ops : Array Oper} {Q : AX → St → Prop} {s : St} (h : WO P cfg call f (ops.toList.map (·.dst)) ops.toList [] (fun _ => Q) s) : WC P cfg call f b (.region id ops false) Q s := by
  obtain ⟨x, acc, s', h1, h2⟩ := h
  have := aopsC_aops ops.toList 0 [] s x acc s' (by simp) h1
  exact ⟨x, s', by simpa only [codeE, List.drop_zero] using this, h2⟩

/-- The end of a drawn region: it must be told apart from no other order. -/
def DrawEnd (cfg : FuncId → FCfg) (f : FuncId) (ops : Array Oper) (Q : AX → St → Prop) (acc : List (Option Cls)) : AX → St → Prop
  | .normal, s => checkD cfg f (ops.toList.map (·.dst)) ops.toList acc.reverse 0 [] [] = true ∧ Q .normal s
  | _, _ => False

theorem WC_draw {b id : Nat} {ops : Array Oper} {Q : AX → St → Prop} {s : St} (h : WO P cfg call f (ops.toList.map (·.dst)) ops.toList [] (DrawEnd cfg f ops Q) s) : WC P cfg call f b (.region id ops true) Q s := by
  obtain ⟨x, acc, s', h1, h2⟩ := h
  cases x with
  | normal =>
    obtain ⟨h3, h4⟩ := h2
    have := aopsC_adraw ops.toList 0 [] [] s acc s' h1 h3
    exact ⟨.normal, s', by simp only [codeE, this], h4⟩
  | _ => exact h2.elim

/-! ### operations -/

theorem WO_nil {dsts : List (Option Tmp)} {acc : List (Option Cls)} {Q : List (Option Cls) → AX → St → Prop} {s : St} : WO P cfg call f dsts [] acc Q s = Q acc .normal s :=
  propext ⟨fun ⟨x, a, s', h1, h2⟩ => by simp only [aopsC, Option.some.injEq, Prod.mk.injEq] at h1; obtain ⟨rfl, rfl, rfl⟩ := h1; exact h2, fun h => ⟨_, _, _, rfl, h⟩⟩

variable {dsts : List (Option Tmp)} {r : List Oper} {acc : List (Option Cls)} {Q : List (Option Cls) → AX → St → Prop}

theorem WO_end {s : St} (h : Q acc .normal s) : WO P cfg call f dsts [] acc Q s := ⟨_, _, _, rfl, h⟩

theorem WO_next {o : Oper} {s s' : St} {c : Cls} (hw : wantedG dsts o s.tmps = some true) (h : aop P cfg call f o s = some (.next s'))
    (hc : acls cfg f o (vals s.tmps o.op.operands.toList (moves cfg f o)) = c) (k : WO P cfg call f dsts r (some c :: acc) Q s') : WO P cfg call f dsts (o :: r) acc Q s := by
  unfold WO at *; simp only [aopsC, hw, h, hc]; exact k

theorem WO_panics {o : Oper} {s s' : St} {v : AV} (hw : wantedG dsts o s.tmps = some true) (h : aop P cfg call f o s = some (.panic v s'))
    (k : Q acc (.panic v) s') : WO P cfg call f dsts (o :: r) acc Q s := ⟨_, _, _, by simp only [aopsC, hw, h], k⟩

theorem WO_off {o : Oper} {s s' : St} (hw : wantedG dsts o s.tmps = some false) (h : ({ s with tmps := putT s.tmps o.dst (.val undef) } : St) = s')
    (k : WO P cfg call f dsts r (none :: acc) Q s') : WO P cfg call f dsts (o :: r) acc Q s := by
  subst h; unfold WO at *; simp only [aopsC, hw]; exact k

/-- A call that answers: all but the answer is a matter of counting. -/
theorem aop_call {o : Oper} {s : St} {g : FuncId} {args : List AV} {v : AV} {H' : Heap} {m : RM} {s' : St} {xs : List Operand} {ms : List Bool} {ts : List AV} {n : Bool}
    (ha : call g args .none s.g.H = some ⟨.ret v, m, H'⟩)
    (h : ∀ call' : CallF, call' g args .none s.g.H = some ⟨.ret v, m, H'⟩ → aop P cfg call' f o s = some (.next s')) : aop P cfg call f o s = some (.next s') := h call ha
end
end Go.Eng
