/-
  THE ENGINE, part 5: the pure operations, all in one; the frame's own variables; what is shared.
-/
import Derived.Test.YtnohjjhgdkpgcaaDoorE4
set_option linter.unusedVariables false
set_option linter.unusedSimpArgs false
namespace Go.Eng

section
variable {P : Program} {I : Mem} {μ : List Nat} {lh : List (Option LCell)} {lv : List LV} {w : World}

/-- What a pure operation leaves. -/
def PureOk (P : Program) (I : Mem) (μ : List Nat) (lh : List (Option LCell)) (lv : List LV) (w : World) (cvs : List Value) (vs : List AV) (s : Sem Next) (r : AV) : Prop :=
  ∃ v' w' J, s.run P w = .ok (.value v') w' ∧ Eff I w (fun g => tcs g cvs vs ≠ 0) J w' ∧ ImmOk J w' ∧ TRep J μ lh lv v' r ∧ SpareOk J w' v' r ∧ ∀ g, g < w.heap.size → tc g v' r ≤ tcs g cvs vs

theorem PureOk.quiet {cvs : List Value} {vs : List AV} {s : Sem Value} {r : AV} (hI : ImmOk I w) (h : ∃ v', s.run P w = .ok v' w ∧ Rep I μ v' r ∧ NoOwn r) :
    PureOk P I μ lh lv w cvs vs (do pure (.value (← s))) r := by
  obtain ⟨v', h1, h2, h3⟩ := h
  exact ⟨v', w, I, by simp [h1], .refl _ _ _, hI, .of h2, h3.spare w v', fun g _ => by rw [h3.tc]; exact Nat.zero_le _⟩

theorem PureOk.quietT {cvs : List Value} {vs : List AV} {s : Sem Value} {r : AV} (hI : ImmOk I w) (h : ∃ v', s.run P w = .ok v' w ∧ TRep I μ lh lv v' r ∧ NoOwn r) :
    PureOk P I μ lh lv w cvs vs (do pure (.value (← s))) r := by
  obtain ⟨v', h1, h2, h3⟩ := h
  exact ⟨v', w, I, by simp [h1], .refl _ _ _, hI, h2, h3.spare w v', fun g _ => by rw [h3.tc]; exact Nat.zero_le _⟩

theorem TRep.repOf {v : Value} {a : AV} (h : TRep I μ lh lv v a) (ha : ∀ t g o, a ≠ .lp t g o) : Rep I μ v a := h.rep (by cases a <;> first | rfl | exact absurd rfl (ha _ _ _))

theorem args1 {xs : Array Operand} {ρ : Operand → Value} {x : Operand} (h : xs.toList = [x]) : xs.map ρ = #[ρ x] := by
  apply Array.ext'; simp [h]

/-- The operands of a builtin's call. -/
theorem call_operands (c : Call) (b : Builtin) (hc : c.callee = .builtin b) : c.operands.toList = c.args.toList := by
  simp [Call.operands, hc]

theorem builtin_run {o : Oper} {c : Call} {b : Builtin} (hop : o.op = .call c) (hc : c.callee = .builtin b) (ρ : Operand → Value) (w : World) :
    (execOp ρ o).run P w = (builtin b c.argTypes o.type (c.args.map fun | .const _ => true | _ => false) (c.args.map ρ)).run P w := by
  simp [execOp, hop, resolve, hc, invoke]
  rfl

theorem abuiltin_sound (hI : ImmOk I w) {o : Oper} {c : Call} {b : Builtin} (hop : o.op = .call c) (hc : c.callee = .builtin b) {ρ : Operand → Value} {vs : List AV} {r : AV}
    (hv : TRepL I μ lh lv (c.args.toList.map ρ) vs) (hs : AllSpare I w (c.args.toList.map ρ) vs) (h : abuiltin P o b c.argTypes vs = some r) :
    PureOk P I μ lh lv w (c.args.toList.map ρ) vs (execOp ρ o) r := by
  have hrun := builtin_run (P := P) hop hc ρ w
  have hargs : c.args.map ρ = (c.args.toList.map ρ).toArray := by apply Array.ext'; simp
  unfold PureOk
  rw [hrun, hargs]
  generalize c.args.toList.map ρ = cvs at *
  generalize (c.args.map fun | .const _ => true | _ => false : Array Bool) = cs
  have q : ∀ {s : Sem Value} {r : AV}, (∃ v', s.run P w = .ok v' w ∧ Rep I μ v' r ∧ NoOwn r) → PureOk P I μ lh lv w cvs vs (do pure (.value (← s))) r := fun h => .quiet hI h
  unfold abuiltin at h
  split at h
  · rename_i x
    obtain ⟨v, vs', rfl, h1, h2⟩ := hv.inv
    obtain rfl := h2.inv0
    split at h
    · rename_i t ht
      have hlp : Rep I μ v x := h1.repOf (by rintro t g o rfl; unfold alen at h; split at h <;> simp_all)
      exact q (alen_sound ht hlp h)
    · cases h
  · rename_i x y
    obtain ⟨v, vs', rfl, h1, h2⟩ := hv.inv
    obtain ⟨u, vs'', rfl, h3, h4⟩ := h2.inv
    obtain rfl := h4.inv0
    have hx : Rep I μ v x := h1.repOf (by rintro t g o rfl; revert h; unfold aappend; (repeat' split) <;> simp_all)
    have hy : Rep I μ u y := h3.repOf (by rintro t g o rfl; revert h; unfold aappend; (repeat' split) <;> simp_all [newRows])
    obtain ⟨v', w', J, e1, e2, e3, e4, e5, e6⟩ := aappend_sound (ty := o.type) hI hx hy (hs 0 v x rfl rfl) h
    refine ⟨v', w', J, ?_, e2.mono fun g hg => ?_, e3, .of e4, e5, fun g hg => ?_⟩
    · show ((do pure (Next.value (← Builtin.append_ c.argTypes o.type #[v, u])) : Sem Next).run P w) = _
      simp [e1]
    · simp only [zsum]; omega
    · have := e6 g hg; simp only [zsum]; omega
  · rename_i l
    split at h
    · rename_i ws hws
      obtain rfl := allVals_rep hv hws
      simp only [Option.map_eq_some_iff] at h
      obtain ⟨v, hv', rfl⟩ := h
      exact q ⟨v, semVal_run P hv' w, .ofVal v, ofVal_noOwn v⟩
    · cases h
  · rename_i l
    split at h
    · rename_i ws hws
      obtain rfl := allVals_rep hv hws
      simp only [Option.map_eq_some_iff] at h
      obtain ⟨v, hv', rfl⟩ := h
      exact q ⟨v, semVal_run P hv' w, .ofVal v, ofVal_noOwn v⟩
    · cases h
  · cases h

theorem take_len {α β : Type} {l : List α} {m : List β} (h : l.length = m.length) (n : Nat) : (l.take n).length = (m.take n).length := by simp [h]

theorem apure_sound (hI : ImmOk I w) {o : Oper} {ρ : Operand → Value} {vs : List AV} {r : AV} (hv : TRepL I μ lh lv (o.op.operands.toList.map ρ) vs) (hs : AllSpare I w (o.op.operands.toList.map ρ) vs)
    (h : apure P o vs = some r) : PureOk P I μ lh lv w (o.op.operands.toList.map ρ) vs (execOp ρ o) r := by
  unfold apure at h
  split at h
  · -- move
    rename_i x v hop
    simp only [hop, Op.operands] at hv hs ⊢
    simp only [Option.some.injEq] at h; subst h
    exact ⟨ρ x, w, I, by simp [execOp, hop], .refl _ _ _, hI, hv.uncons.1, hs 0 _ _ rfl rfl, fun g _ => by simp [zsum]⟩
  · -- assign
    rename_i x v hop
    simp only [hop, Op.operands] at hv hs ⊢
    simp only [Option.some.injEq] at h; subst h
    exact ⟨ρ x, w, I, by simp [execOp, hop], .refl _ _ _, hI, hv.uncons.1, hs 0 _ _ rfl rfl, fun g _ => by simp [zsum]⟩
  · -- pick
    rename_i x y z c a b hop
    simp only [hop, Op.operands] at hv hs ⊢
    have h1 := hv.uncons.1
    have h2 := hv.uncons.2.uncons.1
    have h3 := hv.uncons.2.uncons.2.uncons.1
    split at h
    · simp only [Option.some.injEq] at h; subst h
      have : ρ x = .bool true := toVal_trep h1 rfl
      exact ⟨ρ y, w, I, by simp [execOp, hop, this, asBool], .refl _ _ _, hI, h2, hs 1 _ _ rfl rfl, fun g _ => by simp [zsum]; omega⟩
    · simp only [Option.some.injEq] at h; subst h
      have : ρ x = .bool false := toVal_trep h1 rfl
      exact ⟨ρ z, w, I, by simp [execOp, hop, this, asBool], .refl _ _ _, hI, h3, hs 2 _ _ rfl rfl, fun g _ => by simp [zsum]; omega⟩
    · cases h
  · -- alloc
    rename_i vs' _ _ e hop
    simp only [Option.map_eq_some_iff] at h
    obtain ⟨cs, hcs, rfl⟩ := h
    obtain ⟨e', c, w', e1, e2, e3, e4⟩ := newCells_run hcs hv rfl
    obtain ⟨p1, p2, p3⟩ := e2.imm hI (ws := c.toList) (fun j v hv => by simpa using hv) e4 (fun g => tcs g (o.op.operands.toList.map ρ) vs' ≠ 0)
    exact ⟨_, w', _, e1, p1, p2, .of (.ref _ _ _ _ p3 (e3.mono p1.le (.refl μ)) .nil), fun _ _ _ _ _ _ _ h => (by cases h), fun g _ => Nat.zero_le _⟩
  · -- box
    rename_i vs' _ _ e x hop
    simp only [Option.map_eq_some_iff] at h
    obtain ⟨cs, hcs, rfl⟩ := h
    obtain ⟨e', c, w', e1, e2, e3, e4⟩ := newCells_run hcs hv rfl
    obtain ⟨p1, p2, p3⟩ := e2.imm hI (ws := c.toList) (fun j v hv => by simpa using hv) e4 (fun g => tcs g (o.op.operands.toList.map ρ) vs' ≠ 0)
    exact ⟨_, w', _, e1, p1, p2, .of (.ref _ _ _ _ p3 (e3.mono p1.le (.refl μ)) .nil), fun _ _ _ _ _ _ _ h => (by cases h), fun g _ => Nat.zero_le _⟩
  · -- build
    rename_i vs' _ _ t ps hop
    split at h
    · cases h
    · rename_i hlp
      have hops : o.op.operands.toList.map ρ = ps.toList.map fun p => ρ p.2 := by simp [hop, Op.operands]
      have h1 := hv.repL (by simpa using hlp)
      rw [hops] at h1
      have := PureOk.quiet (lh := lh) (lv := lv) (cvs := o.op.operands.toList.map ρ) (vs := vs') hI (abuild_sound (P := P) (w := w) ps h1 h)
      simpa [execOp, hop] using this
  · -- buildSlice
    rename_i vs' _ _ t n ps hop
    split at h
    · cases h
    · rename_i hlp
      have hops : o.op.operands.toList.map ρ = ps.toList.map fun p => ρ p.2 := by simp [hop, Op.operands]
      have h1 := hv.repL (by simpa using hlp)
      rw [hops] at h1
      obtain ⟨v', w', J, e1, e2, e3, e4, e5⟩ := abuildSlice_sound (P := P) hI ps h1 h (fun g => tcs g (o.op.operands.toList.map ρ) vs' ≠ 0)
      refine ⟨v', w', J, ?_, e2, e3, .of e4, e5.spare w' v', fun g _ => by rw [e5.tc]; exact Nat.zero_le _⟩
      simp only [execOp, hop, Sem.run_bind, e1, Result.andThen_ok, Sem.run_pure]
  · -- load
    rename_i t x cs hop
    simp only [hop, Op.operands] at hv hs ⊢
    have h1 := hv.uncons.1
    have hcore : ∃ v', (Instr.loadAt t (ρ x)).run P w = .ok v' w ∧ Rep I μ v' r ∧ NoOwn r := by
      generalize ρ x = u at h1
      cases h1 with
      | ref b k ws cs hr h2 _ =>
        obtain ⟨v', e1, e2, e3⟩ := readCells_sound (P := P) (hr.cells hI) (hr.one hI) h2 h
        exact ⟨v', by simpa [Instr.loadAt, Instr.sureAddr] using e1, e2, e3⟩
    have := PureOk.quiet (lh := lh) (lv := lv) (cvs := [ρ x]) (vs := [.ref cs]) hI hcore
    simpa [execOp, hop] using this
  · -- nilCheck
    rename_i x v hop
    simp only [hop, Op.operands] at hv hs ⊢
    obtain ⟨rfl, h2, h3⟩ := anilCheck_sound hv.uncons.1 h
    refine ⟨ρ x, w, I, ?_, .refl _ _ _, hI, hv.uncons.1, hs 0 _ _ rfl rfl, fun g _ => by simp [zsum]⟩
    rcases h2 with ⟨b, k, e⟩ | ⟨g, f, c, e⟩ <;> simp [execOp, hop, e]
  · -- binOp
    rename_i op t x y yt a b hop
    simp only [hop, Op.operands] at hv hs ⊢
    have := PureOk.quiet (lh := lh) (lv := lv) (cvs := [ρ x, ρ y]) (vs := [a, b]) hI (abin_sound (P := P) (w := w) hv.uncons.1 hv.uncons.2.uncons.1 h)
    simpa [execOp, hop] using this
  · -- unOp
    rename_i op t x v hop
    simp only [hop, Op.operands] at hv hs ⊢
    split at h
    · rename_i u hu
      obtain rfl := toVal_trep hv.uncons.1 hu
      simp only [Option.map_eq_some_iff] at h
      obtain ⟨v', hv', rfl⟩ := h
      have := PureOk.quiet (lh := lh) (lv := lv) (cvs := [ρ x]) (vs := [v]) hI ⟨v', semVal_run P hv' w, .ofVal (I := I) (μ := μ) v', ofVal_noOwn v'⟩
      simpa [execOp, hop] using this
    · cases h
  · -- convert
    rename_i s d x v hop
    simp only [hop, Op.operands] at hv hs ⊢
    have h1 : Rep I μ (ρ x) v := hv.uncons.1.repOf (by rintro t g k rfl; simp [aconvert] at h)
    have := PureOk.quiet (lh := lh) (lv := lv) (cvs := [ρ x]) (vs := [v]) hI (aconvert_sound (P := P) (w := w) hI h1 h)
    simpa [execOp, hop] using this
  · -- makeInterface
    rename_i t x v hop
    simp only [hop, Op.operands] at hv hs ⊢
    have := PureOk.quiet (lh := lh) (lv := lv) (cvs := [ρ x]) (vs := [v]) hI (amakeInterface_sound (P := P) (w := w) hv.uncons.1 h)
    simpa [execOp, hop] using this
  · -- makeFunc
    rename_i vs' _ _ fn a b hop
    split at h
    · cases h
    · rename_i hlp
      simp only [Option.some.injEq] at h; subst h
      have h1 := hv.repL (by simpa using hlp)
      have e1 : (o.op.operands.toList.map ρ).take a.size = (a.map ρ).toList := by simp [hop, Op.operands, List.take_append_of_le_length]
      have e2 : (o.op.operands.toList.map ρ).drop a.size = (b.map ρ).toList := by simp [hop, Op.operands, List.drop_append_of_le_length]
      have r1 := h1.take a.size
      have r2 := h1.drop a.size
      rw [e1] at r1; rw [e2] at r2
      refine ⟨.func fn (a.map ρ) (b.map ρ), w, I, by simp [execOp, hop, Instr.makeFunc], .refl _ _ _, hI, .of (.func _ _ _ _ _ r1 r2 .nil), fun _ _ _ _ _ _ h => (by cases h), fun g _ => Nat.zero_le _⟩
  · -- makeSlice
    rename_i t x y l c hop
    simp only [hop, Op.operands] at hv hs ⊢
    have h1 : Rep I μ (ρ x) l := hv.uncons.1.repOf (by rintro t g k rfl; revert h; unfold amakeSlice; (repeat' split) <;> simp_all)
    have h2 : Rep I μ (ρ y) c := hv.uncons.2.uncons.1.repOf (by rintro t g k rfl; revert h; unfold amakeSlice; (repeat' split) <;> simp_all)
    obtain ⟨v', w', J, e1, e2, e3, e4, e5, e6⟩ := amakeSlice_sound (P := P) hI h1 h2 h (fun g => tcs g [ρ x, ρ y] [l, c] ≠ 0)
    exact ⟨v', w', J, by simp [execOp, hop, e1], e2, e3, .of e4, e5, fun g hg => by rw [e6 g hg]; exact Nat.zero_le _⟩
  · -- slice
    rename_i t x l hh m a as hop
    have hlp : (a :: as).any AV.isLp = false := by
      cases hl : (a :: as).any AV.isLp with
      | false => rfl
      | true => simp [hl] at h
    have h1 := hv.repL hlp
    have hcore : ∃ v', (Instr.sliceAt t (ρ x) (l.map ρ) (hh.map ρ) (m.map ρ)).run P w = .ok v' w ∧ Rep I μ v' r ∧ NoOwn r := by
      have hlp0 := hlp
      cases l <;> cases hh <;> cases m
      · -- 000
        simp only [Option.isSome_some, Option.isSome_none, if_true, if_false, Bool.false_eq_true, List.head?_cons, List.tail_cons, true_and, hlp] at h
        simp only [Option.map_some, Option.map_none]
        simp [hop, Op.operands] at h1
        exact aslice_sound h1.uncons.1 (.inl ⟨rfl, rfl⟩) (.inl ⟨rfl, rfl⟩) (.inl ⟨rfl, rfl⟩) h
      · -- 001
        rcases as with _ | ⟨b0, as⟩
        · simp at h
        simp only [Option.isSome_some, Option.isSome_none, if_true, if_false, Bool.false_eq_true, List.head?_cons, List.tail_cons, true_and, hlp] at h
        simp only [Option.map_some, Option.map_none]
        simp [hop, Op.operands] at h1
        exact aslice_sound h1.uncons.1 (.inl ⟨rfl, rfl⟩) (.inl ⟨rfl, rfl⟩) (.inr ⟨_, _, rfl, rfl, h1.uncons.2.uncons.1⟩) h
      · -- 010
        rcases as with _ | ⟨b0, as⟩
        · simp at h
        simp only [Option.isSome_some, Option.isSome_none, if_true, if_false, Bool.false_eq_true, List.head?_cons, List.tail_cons, true_and, hlp] at h
        simp only [Option.map_some, Option.map_none]
        simp [hop, Op.operands] at h1
        exact aslice_sound h1.uncons.1 (.inl ⟨rfl, rfl⟩) (.inr ⟨_, _, rfl, rfl, h1.uncons.2.uncons.1⟩) (.inl ⟨rfl, rfl⟩) h
      · -- 011
        rcases as with _ | ⟨b0, as⟩
        · simp at h
        rcases as with _ | ⟨b1, as⟩
        · simp at h
        simp only [Option.isSome_some, Option.isSome_none, if_true, if_false, Bool.false_eq_true, List.head?_cons, List.tail_cons, true_and, hlp] at h
        simp only [Option.map_some, Option.map_none]
        simp [hop, Op.operands] at h1
        exact aslice_sound h1.uncons.1 (.inl ⟨rfl, rfl⟩) (.inr ⟨_, _, rfl, rfl, h1.uncons.2.uncons.1⟩) (.inr ⟨_, _, rfl, rfl, h1.uncons.2.uncons.2.uncons.1⟩) h
      · -- 100
        rcases as with _ | ⟨b0, as⟩
        · simp at h
        simp only [Option.isSome_some, Option.isSome_none, if_true, if_false, Bool.false_eq_true, List.head?_cons, List.tail_cons, true_and, hlp] at h
        simp only [Option.map_some, Option.map_none]
        simp [hop, Op.operands] at h1
        exact aslice_sound h1.uncons.1 (.inr ⟨_, _, rfl, rfl, h1.uncons.2.uncons.1⟩) (.inl ⟨rfl, rfl⟩) (.inl ⟨rfl, rfl⟩) h
      · -- 101
        rcases as with _ | ⟨b0, as⟩
        · simp at h
        rcases as with _ | ⟨b1, as⟩
        · simp at h
        simp only [Option.isSome_some, Option.isSome_none, if_true, if_false, Bool.false_eq_true, List.head?_cons, List.tail_cons, true_and, hlp] at h
        simp only [Option.map_some, Option.map_none]
        simp [hop, Op.operands] at h1
        exact aslice_sound h1.uncons.1 (.inr ⟨_, _, rfl, rfl, h1.uncons.2.uncons.1⟩) (.inl ⟨rfl, rfl⟩) (.inr ⟨_, _, rfl, rfl, h1.uncons.2.uncons.2.uncons.1⟩) h
      · -- 110
        rcases as with _ | ⟨b0, as⟩
        · simp at h
        rcases as with _ | ⟨b1, as⟩
        · simp at h
        simp only [Option.isSome_some, Option.isSome_none, if_true, if_false, Bool.false_eq_true, List.head?_cons, List.tail_cons, true_and, hlp] at h
        simp only [Option.map_some, Option.map_none]
        simp [hop, Op.operands] at h1
        exact aslice_sound h1.uncons.1 (.inr ⟨_, _, rfl, rfl, h1.uncons.2.uncons.1⟩) (.inr ⟨_, _, rfl, rfl, h1.uncons.2.uncons.2.uncons.1⟩) (.inl ⟨rfl, rfl⟩) h
      · -- 111
        rcases as with _ | ⟨b0, as⟩
        · simp at h
        rcases as with _ | ⟨b1, as⟩
        · simp at h
        rcases as with _ | ⟨b2, as⟩
        · simp at h
        simp only [Option.isSome_some, Option.isSome_none, if_true, if_false, Bool.false_eq_true, List.head?_cons, List.tail_cons, true_and, hlp] at h
        simp only [Option.map_some, Option.map_none]
        simp [hop, Op.operands] at h1
        exact aslice_sound h1.uncons.1 (.inr ⟨_, _, rfl, rfl, h1.uncons.2.uncons.1⟩) (.inr ⟨_, _, rfl, rfl, h1.uncons.2.uncons.2.uncons.1⟩) (.inr ⟨_, _, rfl, rfl, h1.uncons.2.uncons.2.uncons.2.uncons.1⟩) h
    have := PureOk.quiet (lh := lh) (lv := lv) (cvs := o.op.operands.toList.map ρ) (vs := a :: as) hI hcore
    simpa [execOp, hop] using this
  · -- fieldAddr
    rename_i t x i v hop
    simp only [hop, Op.operands] at hv hs ⊢
    have := PureOk.quietT (cvs := [ρ x]) (vs := [v]) hI (afieldAddr_sound (P := P) (w := w) hv.uncons.1 h)
    simpa [execOp, hop] using this
  · -- field
    rename_i t x i v hop
    simp only [hop, Op.operands] at hv hs ⊢
    have h1 : Rep I μ (ρ x) v := hv.uncons.1.repOf (by rintro t g k rfl; revert h; unfold afield; (repeat' split) <;> simp_all)
    have := PureOk.quiet (lh := lh) (lv := lv) (cvs := [ρ x]) (vs := [v]) hI (afield_sound (P := P) (w := w) h1 h)
    simpa [execOp, hop] using this
  · -- indexAddr
    rename_i t x y v i hop
    simp only [hop, Op.operands] at hv hs ⊢
    have := PureOk.quietT (cvs := [ρ x, ρ y]) (vs := [v, i]) hI (aindexAddr_sound (P := P) (w := w) hv.uncons.1 hv.uncons.2.uncons.1 h)
    simpa [execOp, hop] using this
  · -- index
    rename_i t x y v i hop
    simp only [hop, Op.operands] at hv hs ⊢
    have h1 : Rep I μ (ρ x) v := hv.uncons.1.repOf (by rintro t g k rfl; revert h; unfold aindex; (repeat' split) <;> simp_all)
    have h2 : Rep I μ (ρ y) i := hv.uncons.2.uncons.1.repOf (by rintro t g k rfl; revert h; unfold aindex; (repeat' split) <;> simp_all)
    have := PureOk.quiet (lh := lh) (lv := lv) (cvs := [ρ x, ρ y]) (vs := [v, i]) hI (aindex_sound (P := P) (w := w) h1 h2 h)
    simpa [execOp, hop] using this
  · -- typeAssert
    rename_i x xt t ok v hop
    simp only [hop, Op.operands] at hv hs ⊢
    have h1 : Rep I μ (ρ x) v := hv.uncons.1.repOf (by rintro t g k rfl; revert h; unfold atypeAssert; (repeat' split) <;> simp_all)
    have := PureOk.quiet (lh := lh) (lv := lv) (cvs := [ρ x]) (vs := [v]) hI (atypeAssert_sound (P := P) (w := w) (x := xt) h1 h)
    simpa [execOp, hop] using this
  · -- extract
    rename_i x i v hop
    simp only [hop, Op.operands] at hv hs ⊢
    have h1 : Rep I μ (ρ x) v := hv.uncons.1.repOf (by rintro t g k rfl; simp [aextract] at h)
    have := PureOk.quiet (lh := lh) (lv := lv) (cvs := [ρ x]) (vs := [v]) hI (aextract_sound (P := P) (w := w) h1 h)
    simpa [execOp, hop] using this
  · -- call
    rename_i vs' _ _ c hop
    split at h
    · rename_i b hc
      have hops : o.op.operands.toList = c.args.toList := by simp [hop, Op.operands, call_operands c b hc]
      rw [hops] at hv hs ⊢
      exact abuiltin_sound hI hop hc hv hs h
    · cases h
  · cases h
end
end Go.Eng
