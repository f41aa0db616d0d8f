/-
  THE ENGINE, part 26: pointers under other names: what a function does in a heap it does in a greater one, whatever lies beside.
-/
import Derived.Test.YtnohjjhgdkpgcaaDoorE25
set_option linter.unusedVariables false
set_option linter.unusedSimpArgs false
namespace Go.Eng

/-- A heap of n blocks within one of N: where its blocks lie; what lies beside holds nothing from beyond. -/
structure Fr (ρ : Nat → Nat) (n N : Nat) (F : Heap) : Prop where
  lo : ∀ i, i < n → ρ i < N
  hi : ∀ i, n ≤ i → ρ i = i - n + N
  inj : ∀ i j, i < n → j < n → ρ i = ρ j → i = j
  low : ∀ j cs, F[j]? = some cs → j < N → (∀ i, i < n → ρ i ≠ j) → lows N cs = true

structure HR (ρ : Nat → Nat) (n N : Nat) (F H K : Heap) : Prop where
  le : n ≤ H.length
  len : K.length = H.length - n + N
  im : ∀ i, K[ρ i]? = (H[i]?).map (List.map (AV.ren ρ))
  off : ∀ j, j < N → (∀ i, i < n → ρ i ≠ j) → K[j]? = F[j]?

section
variable {ρ : Nat → Nat} {n N : Nat} {F : Heap}

theorem Fr.inj' (h : Fr ρ n N F) {i j : Nat} (e : ρ i = ρ j) : i = j := by
  rcases Nat.lt_or_ge i n with hi | hi
  · rcases Nat.lt_or_ge j n with hj | hj
    · exact h.inj i j hi hj e
    · have := h.lo i hi; have := h.hi j hj; omega
  · rcases Nat.lt_or_ge j n with hj | hj
    · have := h.lo j hj; have := h.hi i hi; omega
    · have := h.hi i hi; have := h.hi j hj; omega

theorem HR.set (hf : Fr ρ n N F) {H K : Heap} (h : HR ρ n N F H K) (id : Nat) (cs : List AV) : HR ρ n N F (H.set id cs) (K.set (ρ id) (cs.map (AV.ren ρ))) := by
  refine ⟨by simpa using h.le, by simpa using h.len, ?_, ?_⟩
  · intro i
    simp only [List.getElem?_set]
    by_cases e : id = i
    · subst e
      simp only [if_true]
      have h1 := h.im id
      by_cases hl : id < H.length
      · rw [if_pos hl, if_pos]
        · rfl
        · rw [List.getElem?_eq_getElem hl] at h1
          exact (List.getElem?_eq_some_iff.1 h1).1
      · rw [if_neg hl, if_neg]
        · rfl
        · have h2 : H[id]? = none := List.getElem?_eq_none (Nat.not_lt.1 hl)
          rw [h2] at h1
          exact Nat.not_lt.2 (List.getElem?_eq_none_iff.1 h1)
    · rw [if_neg (fun h => e (hf.inj' h)), if_neg e]
      exact h.im i
  · intro j hj hn
    rw [List.getElem?_set]
    by_cases e : ρ id = j
    · by_cases hid : id < n
      · exact absurd e (hn id hid)
      · have := hf.hi id (by omega); omega
    · rw [if_neg e]; exact h.off j hj hn

theorem HR.push (hf : Fr ρ n N F) {H K : Heap} (h : HR ρ n N F H K) (cs : List AV) : HR ρ n N F (H ++ [cs]) (K ++ [cs.map (AV.ren ρ)]) ∧ ρ H.length = K.length := by
  have e : ρ H.length = K.length := by rw [hf.hi _ h.le, h.len]
  refine ⟨⟨by have := h.le; simp; omega, by have := h.len; have := h.le; simp; omega, ?_, ?_⟩, e⟩
  · intro i
    rcases Nat.lt_trichotomy i H.length with hi | hi | hi
    · have : ρ i < K.length := by
        have h1 := h.im i
        rw [List.getElem?_eq_getElem hi] at h1
        exact (List.getElem?_eq_some_iff.1 h1).1
      rw [List.getElem?_append_left this, List.getElem?_append_left hi]; exact h.im i
    · subst hi
      rw [e]; simp
    · have h1 := hf.hi i (by have := h.le; omega)
      have h2 := h.len
      have h3 := h.le
      rw [List.getElem?_eq_none (by simp; omega), List.getElem?_eq_none (by simp; omega)]; rfl
  · intro j hj hn
    have := h.len; have := h.le
    rw [List.getElem?_append_left (by omega)]; exact h.off j hj hn

def renRM (ρ : Nat → Nat) : RM → RM
  | .none => .none
  | .returning => .returning
  | .panicking v r => .panicking (v.ren ρ) r
def renOut (ρ : Nat → Nat) : Out → Out
  | .ret v => .ret (v.ren ρ)
  | .panic v => .panic (v.ren ρ)
def renD (ρ : Nat → Nat) (d : ADef) : ADef := ⟨d.f, d.args.map (AV.ren ρ)⟩
def renL (ρ : Nat → Nat) (c : LCell) : LCell := (c.1, c.2.map (AV.ren ρ))

structure GRl (ρ : Nat → Nat) (n N : Nat) (F : Heap) (g g' : G) : Prop where
  H : HR ρ n N F g.H g'.H
  df : g'.defers = g.defers.map (renD ρ)
  rm : g'.rm = renRM ρ g.rm
  bs : n ≤ g.base ∧ g'.base = g.base - n + N

structure SRl (ρ : Nat → Nat) (n N : Nat) (F : Heap) (s s' : St) : Prop where
  t : s'.tmps = s.tmps.map (AV.ren ρ)
  l : s'.lh = s.lh.map (Option.map (renL ρ))
  g : GRl ρ n N F s.g s'.g

structure RRl (ρ : Nat → Nat) (n N : Nat) (F : Heap) (r r' : CRes) : Prop where
  o : r'.out = renOut ρ r.out
  rm : r'.rm = renRM ρ r.rm
  H : HR ρ n N F r.H r'.H

def CallR (ρ : Nat → Nat) (n N : Nat) (F : Heap) (call : CallF) : Prop :=
  ∀ f args rm H r, call f args rm H = some r → ∀ K, HR ρ n N F H K → ∃ r', call f (args.map (AV.ren ρ)) (renRM ρ rm) K = some r' ∧ RRl ρ n N F r r'

variable {P : Program} {cfg : FuncId → FCfg} {call : CallF}

theorem ren_vals' (s : List AV) : ∀ (xs : List Operand) (ms : List Bool), vals (s.map (AV.ren ρ)) xs ms = (vals s xs ms).map (AV.ren ρ)
  | [], ms => by cases ms <;> rfl
  | x :: r, [] => by simp only [vals, List.map_cons, ren_aeval, ren_dis, ren_vals' s r]
  | x :: r, b :: bs => by cases b <;> simp [vals, ren_aeval, ren_vals' s r]

theorem modify_ren (s : List AV) (t : Nat) : (s.map (AV.ren ρ)).modify t AV.dis = (s.modify t AV.dis).map (AV.ren ρ) := by
  apply List.ext_getElem?
  intro i
  simp only [List.getElem?_modify, List.getElem?_map]
  cases s[i]? with
  | none => rfl
  | some a =>
    simp only [Option.map_some, Option.some.injEq]
    split <;> simp

theorem ren_disT : ∀ (xs : List Operand) (ms : List Bool) (s : List AV), disT (s.map (AV.ren ρ)) xs ms = (disT s xs ms).map (AV.ren ρ)
  | [], ms, s => by cases ms <;> rfl
  | x :: r, [], s => by cases x <;> rfl
  | x :: r, b :: bs, s => by
    cases x with
    | tmp t => cases b with
      | true => simp only [disT, modify_ren]; exact ren_disT r bs _
      | false => simp only [disT]; exact ren_disT r bs _
    | _ => cases b <;> (simp only [disT]; exact ren_disT r bs _)

theorem ren_acls (f : FuncId) (o : Oper) (vs : List AV) : acls cfg f o (vs.map (AV.ren ρ)) = acls cfg f o vs := by
  unfold acls
  cases o.op with
  | load t x =>
    match vs with
    | [] => rfl
    | [a] => cases a <;> simp
    | a :: _ :: _ => cases a <;> simp
  | store t x y =>
    match vs with
    | [] => rfl
    | a :: _ => cases a <;> simp
  | _ => rfl

theorem ren_apure (o : Oper) (vs : List AV) : apure P o (vs.map (AV.ren ρ)) = (apure P o vs).map (AV.ren ρ) := by
  unfold apure
  cases ho : o.op with
  | move x => match vs with
    | [] => rfl
    | [a] => rfl
    | _ :: _ :: _ => rfl
  | assign x => match vs with
    | [] => rfl
    | [a] => rfl
    | _ :: _ :: _ => rfl
  | pick c a b => match vs with
    | [c, a, b] =>
      cases c with
      | val v => cases v with
        | bool b => cases b <;> rfl
        | _ => rfl
      | _ => simp
    | [] => rfl
    | [_] => rfl
    | [_, _] => rfl
    | _ :: _ :: _ :: _ :: _ => rfl
  | alloc e =>
    simp only [ren_newCells]
    cases newCells P o vs <;> simp
  | box e v =>
    simp only [ren_newCells]
    cases newCells P o vs <;> simp
  | build t ps =>
    simp only [ren_anyLp]
    split
    · rfl
    · rw [ren_zipParts]; exact ren_abuild _ _
  | buildSlice t m ps =>
    simp only [ren_anyLp]
    split
    · rfl
    · rw [ren_zipParts]; exact ren_abuildSlice _ _ _
  | load t x => match vs with
    | [a] => cases a with
      | ref cs => simp only [List.map_cons, List.map_nil, ren_ref]; exact ren_readCells _ _ _
      | _ => simp
    | [] => rfl
    | a :: _ :: _ => cases a <;> simp
  | nilCheck x => match vs with
    | [a] => exact ren_anilCheck a
    | [] => rfl
    | _ :: _ :: _ => rfl
  | binOp op t x y => match vs with
    | [a, b] => exact ren_abin ..
    | [] => rfl
    | [_] => rfl
    | _ :: _ :: _ :: _ => rfl
  | unOp op t x => match vs with
    | [a] =>
      simp only [List.map_cons, List.map_nil, ren_toVal]
      cases a.toVal with
      | none => rfl
      | some w => simp only [Option.map_map]; congr 1; funext v; simp
    | [] => rfl
    | _ :: _ :: _ => rfl
  | convert a b x => match vs with
    | [v] => exact ren_aconvert ..
    | [] => rfl
    | _ :: _ :: _ => rfl
  | makeInterface t x => match vs with
    | [v] => exact ren_amakeInterface ..
    | [] => rfl
    | _ :: _ :: _ => rfl
  | makeFunc fn a b =>
    simp only [ren_anyLp]
    split
    · rfl
    · simp only [Option.map_some, ren_func, List.map_take, List.map_drop]
  | makeSlice t l c => match vs with
    | [a, b] => exact ren_amakeSlice ..
    | [] => rfl
    | [_] => rfl
    | _ :: _ :: _ :: _ => rfl
  | slice t x l h m => match vs with
    | [] => rfl
    | y :: r =>
      simp only [List.map_cons]
      have e1 : (if l.isSome = true then (r.map (AV.ren ρ)).head? else none) = (if l.isSome = true then r.head? else none).map (AV.ren ρ) := by split <;> simp
      have e2 : (if l.isSome = true then (r.map (AV.ren ρ)).tail else r.map (AV.ren ρ)) = (if l.isSome = true then r.tail else r).map (AV.ren ρ) := by split <;> simp
      rw [e1, e2]
      generalize (if l.isSome = true then r.tail else r) = r1
      generalize (if l.isSome = true then r.head? else none) = lo
      have e3 : (if h.isSome = true then (r1.map (AV.ren ρ)).head? else none) = (if h.isSome = true then r1.head? else none).map (AV.ren ρ) := by split <;> simp
      have e4 : (if h.isSome = true then (r1.map (AV.ren ρ)).tail else r1.map (AV.ren ρ)) = (if h.isSome = true then r1.tail else r1).map (AV.ren ρ) := by split <;> simp
      rw [e3, e4]
      generalize (if h.isSome = true then r1.tail else r1) = r2
      generalize (if h.isSome = true then r1.head? else none) = hi
      have e5 : (if m.isSome = true then (r2.map (AV.ren ρ)).head? else none) = (if m.isSome = true then r2.head? else none).map (AV.ren ρ) := by split <;> simp
      rw [e5]
      generalize (if m.isSome = true then r2.head? else none) = mx
      have e6 : (AV.ren ρ y :: r.map (AV.ren ρ)).any AV.isLp = (y :: r).any AV.isLp := ren_anyLp (y :: r)
      simp only [Option.isSome_map, e6]
      split
      · exact ren_aslice _ _ _ _ _
      · rfl
  | fieldAddr t x i => match vs with
    | [a] => exact ren_afieldAddr ..
    | [] => rfl
    | _ :: _ :: _ => rfl
  | field t x i => match vs with
    | [a] => exact ren_afield ..
    | [] => rfl
    | _ :: _ :: _ => rfl
  | indexAddr t x y => match vs with
    | [a, b] => exact ren_aindexAddr ..
    | [] => rfl
    | [_] => rfl
    | _ :: _ :: _ :: _ => rfl
  | index t x y => match vs with
    | [a, b] => exact ren_aindex ..
    | [] => rfl
    | [_] => rfl
    | _ :: _ :: _ :: _ => rfl
  | typeAssert x a t ok => match vs with
    | [v] => exact ren_atypeAssert ..
    | [] => rfl
    | _ :: _ :: _ => rfl
  | extract x i => match vs with
    | [v] => exact ren_aextract ..
    | [] => rfl
    | _ :: _ :: _ => rfl
  | call c =>
    simp only
    cases c.callee with
    | builtin b => exact ren_abuiltin ..
    | _ => rfl
  | _ => simp

theorem ren_aloc (f : FuncId) (o : Oper) (vs : List AV) (c : Option LCell) :
    aloc P cfg f o (vs.map (AV.ren ρ)) (c.map (renL ρ)) = (aloc P cfg f o vs c).map fun (p : AV × Option LCell) => (p.1.ren ρ, p.2.map (renL ρ)) := by
  have new : (match o.dst, newCells P o (vs.map (AV.ren ρ)) with
      | some t, some cs => match c.map (renL ρ) with
        | none => some (AV.lp t 0 0, some (0, cs))
        | some (g, _) => some (.lp t (g + 1) 0, some (g + 1, cs))
      | _, _ => none) = (match o.dst, newCells P o vs with
      | some t, some cs => match c with
        | none => some (AV.lp t 0 0, some (0, cs))
        | some (g, _) => some (.lp t (g + 1) 0, some (g + 1, cs))
      | _, _ => none).map fun (p : AV × Option LCell) => (p.1.ren ρ, p.2.map (renL ρ)) := by
    rw [ren_newCells]
    cases o.dst with
    | none => rfl
    | some t => cases newCells P o vs with
      | none => rfl
      | some cs => cases c with
        | none => rfl
        | some c => rfl
  unfold aloc
  cases o.op with
  | alloc e => exact new
  | box e v => exact new
  | load t x => match vs with
    | [a] => cases a with
      | lp l g off =>
        cases c with
        | none => rfl
        | some c =>
          obtain ⟨g', cs⟩ := c
          simp only [List.map_cons, List.map_nil, ren_lp, Option.map_some, renL]
          split
          · split
            · rw [List.getElem?_map]
              cases isAgg? P t with
              | none => rfl
              | some b => cases b with
                | true => rfl
                | false => cases cs[off]? with
                  | none => rfl
                  | some v => simp only [Option.map_some, renL, List.map_set, ren_dis]
            · rw [ren_readCells]
              cases readCells P t cs off <;> rfl
          · rfl
      | _ => simp
    | [] => rfl
    | a :: _ :: _ => cases a <;> simp
  | store t x y => match vs with
    | [a, v] => cases a with
      | lp l g off =>
        cases c with
        | none => rfl
        | some c =>
          obtain ⟨g', cs⟩ := c
          simp only [List.map_cons, List.map_nil, ren_lp, Option.map_some, renL, ren_scells]
          cases v.scells with
          | none => rfl
          | some new =>
            simp only [Option.map_some]
            cases size? P t with
            | none => rfl
            | some m =>
              simp only [List.length_map]
              split
              · simp only [Option.map_some, ren_writeCells, ren_val, renL]
              · rfl
      | _ => simp
    | [] => rfl
    | [a] => cases a <;> simp
    | a :: _ :: _ :: _ => cases a <;> simp
  | _ => simp

/-- What two outcomes have in common. -/
inductive GRR (ρ : Nat → Nat) (n N : Nat) (F : Heap) : GR → GR → Prop
  | val (v : AV) {g g' : G} : GRl ρ n N F g g' → GRR ρ n N F (.val v g) (.val (v.ren ρ) g')
  | panic (v : AV) {g g' : G} : GRl ρ n N F g g' → GRR ρ n N F (.panic v g) (.panic (v.ren ρ) g')

theorem acallv_ren (hc : CallR ρ n N F call) {g : FuncId} {args : List AV} {m m' : G} {r : GR} (h : acallv call g args m = some r) (hm : GRl ρ n N F m m') :
    ∃ r', acallv call g (args.map (AV.ren ρ)) m' = some r' ∧ GRR ρ n N F r r' := by
  unfold acallv at *
  rw [ren_anyLp]
  split at h
  · cases h
  · rename_i hl
    rw [if_neg hl]
    split at h
    · rename_i v rm H e
      simp only [Option.some.injEq] at h; subst h
      obtain ⟨⟨o, rm', K⟩, e', h1, h2, h3⟩ := hc _ _ _ _ _ e _ hm.H
      simp only [renOut] at h1; subst h1
      simp only [renRM] at e'
      exact ⟨.val (v.ren ρ) { m' with H := K }, by rw [e'], .val v ⟨h3, hm.df, hm.rm, hm.bs⟩⟩
    · rename_i v rm H e
      simp only [Option.some.injEq] at h; subst h
      obtain ⟨⟨o, rm', K⟩, e', h1, h2, h3⟩ := hc _ _ _ _ _ e _ hm.H
      simp only [renOut] at h1; subst h1
      simp only [renRM] at e'
      exact ⟨.panic (v.ren ρ) { m' with H := K }, by rw [e'], .panic v ⟨h3, hm.df, hm.rm, hm.bs⟩⟩
    · cases h

theorem aglob_ren (hf : Fr ρ n N F) (hc : CallR ρ n N F call) {f : FuncId} {o : Oper} {vs : List AV} {m m' : G} {r : GR} (h : aglob P cfg call f o vs m = some r) (hm : GRl ρ n N F m m') :
    ∃ r', aglob P cfg call f o (vs.map (AV.ren ρ)) m' = some r' ∧ GRR ρ n N F r r' := by
  have new : ∀ r, (match newCells P o vs with
      | some cs => some (GR.val (.ptr m.H.length 0) { m with H := m.H ++ [cs] })
      | none => none) = some r → ∃ r', (match newCells P o (vs.map (AV.ren ρ)) with
      | some cs => some (GR.val (.ptr m'.H.length 0) { m' with H := m'.H ++ [cs] })
      | none => none) = some r' ∧ GRR ρ n N F r r' := by
    intro r h
    rw [ren_newCells]
    cases hn : newCells P o vs with
    | none => rw [hn] at h; cases h
    | some cs =>
      rw [hn] at h
      simp only [Option.some.injEq] at h; subst h
      obtain ⟨h1, h2⟩ := hm.H.push hf cs
      have := GRR.val (ρ := ρ) (n := n) (N := N) (F := F) (.ptr m.H.length 0) (g := { m with H := m.H ++ [cs] }) (g' := { m' with H := m'.H ++ [cs.map (AV.ren ρ)] }) ⟨h1, hm.df, hm.rm, hm.bs⟩
      rw [ren_ptr, h2] at this
      exact ⟨_, rfl, this⟩
  unfold aglob at h ⊢
  cases ho : o.op with
  | alloc e => simp only [ho] at h ⊢; exact new r h
  | box e v => simp only [ho] at h ⊢; exact new r h
  | load t x =>
    simp only [ho] at h ⊢
    match vs with
    | [] => simp at h
    | [a] =>
      cases a with
      | ptr id off =>
        simp only [List.map_cons, List.map_nil, ren_ptr, hm.H.im] at h ⊢
        cases hH : m.H[id]? with
        | none => rw [hH] at h; cases h
        | some cs =>
          rw [hH] at h
          simp only [Option.map_some] at h ⊢
          split at h
          · rename_i hd
            rw [if_pos hd]
            rw [List.getElem?_map]
            cases hag : isAgg? P t with
            | none => rw [hag] at h; cases h
            | some b => cases b with
              | true => rw [hag] at h; cases h
              | false =>
                rw [hag] at h
                cases hcs : cs[off]? with
                | none => rw [hcs] at h; cases h
                | some v =>
                  rw [hcs] at h
                  simp only [Option.some.injEq] at h; subst h
                  refine ⟨_, rfl, .val v ⟨?_, hm.df, hm.rm, hm.bs⟩⟩
                  have := hm.H.set hf id (cs.set off v.dis)
                  rwa [List.map_set, ren_dis] at this
          · rename_i hd
            rw [if_neg hd, ren_readCells]
            cases hrc : readCells P t cs off with
            | none => rw [hrc] at h; cases h
            | some v =>
              rw [hrc] at h
              simp only [Option.map_some, Option.some.injEq] at h; subst h
              exact ⟨_, rfl, .val v hm⟩
      | _ => simp at h
    | a :: _ :: _ => cases a <;> simp at h
  | store t x y =>
    simp only [ho] at h ⊢
    match vs with
    | [] => simp at h
    | [a] => cases a <;> simp at h
    | [a, v] =>
      cases a with
      | ptr id off =>
        simp only [List.map_cons, List.map_nil, ren_ptr, hm.H.im, ren_scells] at h ⊢
        cases hH : m.H[id]? with
        | none => rw [hH] at h; cases h
        | some cs =>
          rw [hH] at h
          cases hsc : v.scells with
          | none => rw [hsc] at h; cases h
          | some new =>
            rw [hsc] at h
            cases hsz : size? P t with
            | none => rw [hsz] at h; cases h
            | some k =>
              rw [hsz] at h
              simp only [Option.map_some, List.length_map] at h ⊢
              split at h
              · rename_i hcond
                rw [if_pos hcond]
                simp only [Option.some.injEq] at h; subst h
                refine ⟨_, rfl, .val (.val undef) ⟨?_, hm.df, hm.rm, hm.bs⟩⟩
                have := hm.H.set hf id (writeCells cs off new)
                rwa [← ren_writeCells] at this
              · cases h
      | _ => simp at h
    | a :: _ :: _ :: _ => cases a <;> simp at h
  | call c =>
    simp only [ho] at h ⊢
    cases hcl : c.callee with
    | builtin b =>
      rw [hcl] at h
      cases b with
      | recover =>
        simp only [List.map_eq_nil_iff] at h ⊢
        split at h
        · rename_i hv
          rw [if_pos hv]
          unfold arecover at h ⊢
          rw [hm.rm]
          split at h
          · cases h
          · rename_i e
            simp only [Option.some.injEq] at h; subst h
            rw [e]
            exact ⟨_, rfl, .val (.val .nilIface) hm⟩
          · rename_i v e
            simp only [Option.some.injEq] at h; subst h
            rw [e]
            simp only [renRM]
            refine ⟨_, rfl, ?_⟩
            have := GRR.val (ρ := ρ) (n := n) (N := N) (F := F) v.dis (g := { m with rm := .panicking v true }) (g' := { m' with rm := .panicking (v.ren ρ) true }) ⟨hm.H, hm.df, rfl, hm.bs⟩
            rwa [ren_dis] at this
          · rename_i v e
            simp only [Option.some.injEq] at h; subst h
            rw [e]
            exact ⟨_, rfl, .val (.val .nilIface) hm⟩
        · cases h
      | _ => simp at h
    | value x =>
      rw [hcl] at h
      simp only at h ⊢
      match vs with
      | [] => simp at h
      | a :: args =>
        cases a with
        | func fn first captured =>
          cases fn with
          | func g =>
            simp only [List.map_cons, ren_func] at h ⊢
            have := acallv_ren hc h hm
            simp only [List.map_append, ren_dis_map] at this
            exact this
          | _ => simp at h
        | _ => simp at h
    | invoke _ _ => rw [hcl] at h; simp at h
  | defer c =>
    simp only [ho] at h ⊢
    cases hcl : c.callee with
    | value x =>
      rw [hcl] at h
      simp only at h ⊢
      match vs with
      | [] => simp at h
      | a :: args =>
        cases a with
        | func fn first captured =>
          cases fn with
          | func g =>
            simp only [List.map_cons, ren_func] at h ⊢
            have e : (first.map (AV.ren ρ) ++ args.map (AV.ren ρ) ++ captured.map (AV.ren ρ)) = (first ++ args ++ captured).map (AV.ren ρ) := by simp
            rw [e, ren_anyLp]
            split at h
            · cases h
            · rename_i hl
              rw [if_neg hl]
              simp only [Option.some.injEq] at h; subst h
              refine ⟨_, rfl, .val (.val undef) ⟨hm.H, ?_, hm.rm, hm.bs⟩⟩
              simp only [List.map_cons, renD, hm.df, ren_dis_map]
          | _ => simp at h
        | _ => simp at h
    | _ => rw [hcl] at h; simp at h
  | panic x =>
    simp only [ho] at h ⊢
    match vs with
    | [] => simp at h
    | [a] =>
      cases a with
      | iface t v =>
        simp only [Option.some.injEq] at h; subst h
        exact ⟨_, rfl, .panic (.iface t v) hm⟩
      | _ => simp at h
    | a :: _ :: _ => cases a <;> simp at h
  | _ => simp only [ho] at h; simp at h

inductive SRR (ρ : Nat → Nat) (n N : Nat) (F : Heap) : SR → SR → Prop
  | next {s s' : St} : SRl ρ n N F s s' → SRR ρ n N F (.next s) (.next s')
  | panic (v : AV) {s s' : St} : SRl ρ n N F s s' → SRR ρ n N F (.panic v s) (.panic (v.ren ρ) s')

theorem ren_putT (s : List AV) (d : Option Tmp) (v : AV) : putT (s.map (AV.ren ρ)) d (v.ren ρ) = (putT s d v).map (AV.ren ρ) := by
  cases d with
  | none => rfl
  | some t => simp only [putT, List.map_set]

theorem aop_ren (hf : Fr ρ n N F) (hc : CallR ρ n N F call) {f : FuncId} {o : Oper} {s s' : St} {r : SR} (h : aop P cfg call f o s = some r) (hs : SRl ρ n N F s s') :
    ∃ r', aop P cfg call f o s' = some r' ∧ SRR ρ n N F r r' := by
  unfold aop at h ⊢
  simp only [hs.t, hs.l, ren_vals', ren_disT, ren_acls] at h ⊢
  split at h
  · rename_i hn
    rw [if_pos hn]
    split at h
    · rename_i ecl
      simp only [ecl, ren_apure]
      cases hp : apure P o (vals s.tmps o.op.operands.toList (moves cfg f o)) with
      | none => rw [hp] at h; cases h
      | some v =>
        rw [hp] at h
        simp only [Option.some.injEq] at h; subst h
        exact ⟨_, rfl, .next ⟨ren_putT .., rfl, hs.g⟩⟩
    · rename_i l b ecl
      simp only [ecl, List.getElem?_map]
      cases hl : s.lh[l]? with
      | none => rw [hl] at h; cases h
      | some c =>
        rw [hl] at h
        simp only [Option.map_some, ren_aloc] at h ⊢
        cases hp : aloc P cfg f o (vals s.tmps o.op.operands.toList (moves cfg f o)) c with
        | none => rw [hp] at h; cases h
        | some p =>
          obtain ⟨v, c'⟩ := p
          rw [hp] at h
          simp only [Option.some.injEq] at h; subst h
          exact ⟨_, rfl, .next ⟨ren_putT .., by simp only [List.map_set], hs.g⟩⟩
    · rename_i b ecl
      try simp only [ecl]
      cases hp : aglob P cfg call f o (vals s.tmps o.op.operands.toList (moves cfg f o)) s.g with
      | none => rw [hp] at h; cases h
      | some r0 =>
        obtain ⟨r', h1, h2⟩ := aglob_ren hf hc hp hs.g
        rw [hp] at h
        rw [h1]
        cases h2 with
        | val v hg => simp only [Option.some.injEq] at h; subst h; exact ⟨_, rfl, .next ⟨ren_putT .., rfl, hg⟩⟩
        | panic v hg => simp only [Option.some.injEq] at h; subst h; exact ⟨_, rfl, .panic v ⟨rfl, rfl, hg⟩⟩
  · cases h

theorem ren_wantedA (ops : Array Oper) (o : Oper) (ts : List AV) : wantedA ops o (ts.map (AV.ren ρ)) = wantedA ops o ts := by
  unfold wantedA
  split
  · rfl
  · split
    · rfl
    · rename_i t _
      rw [List.getElem?_map]
      cases ts[t]? with
      | none => rfl
      | some v => cases v with
        | val u => cases u <;> rfl
        | _ => simp

theorem astep_ren (hf : Fr ρ n N F) (hc : CallR ρ n N F call) {f : FuncId} {ops : Array Oper} {o : Oper} {s s' : St} {r : SR} (h : astep P cfg call f ops o s = some r) (hs : SRl ρ n N F s s') :
    ∃ r', astep P cfg call f ops o s' = some r' ∧ SRR ρ n N F r r' := by
  unfold astep at h ⊢
  rw [hs.t, ren_wantedA]
  split at h
  · exact aop_ren hf hc h hs
  · simp only [Option.some.injEq] at h; subst h
    exact ⟨_, rfl, .next ⟨ren_putT (ρ := ρ) s.tmps o.dst (.val undef), hs.l, hs.g⟩⟩
  · cases h

def renX (ρ : Nat → Nat) : AX → AX
  | .panic v => .panic (v.ren ρ)
  | x => x

theorem aops_ren (hf : Fr ρ n N F) (hc : CallR ρ n N F call) {f : FuncId} {ops : Array Oper} : ∀ {l : List Nat} {s s' : St} {x : AX} {s1 : St}, aops P cfg call f ops l s = some (x, s1) → SRl ρ n N F s s' →
    ∃ s1', aops P cfg call f ops l s' = some (renX ρ x, s1') ∧ SRl ρ n N F s1 s1' := by
  intro l
  induction l with
  | nil =>
    intro s s' x s1 h hs
    simp only [aops, Option.some.injEq, Prod.mk.injEq] at h
    obtain ⟨rfl, rfl⟩ := h
    exact ⟨s', rfl, hs⟩
  | cons i l ih =>
    intro s s' x s1 h hs
    simp only [aops] at h ⊢
    split at h
    · cases h
    · rename_i o ho
      cases hp : astep P cfg call f ops o s with
      | none => rw [hp] at h; cases h
      | some r0 =>
        obtain ⟨r', h1, h2⟩ := astep_ren hf hc hp hs
        rw [hp] at h
        rw [h1]
        cases h2 with
        | next hs' => exact ih h hs'
        | panic v hs' =>
          simp only [Option.some.injEq, Prod.mk.injEq] at h
          obtain ⟨rfl, rfl⟩ := h
          exact ⟨_, rfl, hs'⟩

theorem adraw_ren (hf : Fr ρ n N F) (hc : CallR ρ n N F call) {f : FuncId} {ops : Array Oper} : ∀ {l : List Oper} {i : Nat} {ancs : List Nat} {foot : List (Nat × Nat)} {s s' s1 : St}, adraw P cfg call f ops l i ancs foot s = some s1 → SRl ρ n N F s s' →
    ∃ s1', adraw P cfg call f ops l i ancs foot s' = some s1' ∧ SRl ρ n N F s1 s1' := by
  intro l
  induction l with
  | nil =>
    intro i ancs foot s s' s1 h hs
    simp only [adraw, Option.some.injEq] at h; subst h
    exact ⟨s', rfl, hs⟩
  | cons o l ih =>
    intro i ancs foot s s' s1 h hs
    have eR : footR cfg f ops o s' = footR cfg f ops o s := by unfold footR; rw [hs.t, ren_wantedA, ren_vals', ren_acls]
    have eW : footW cfg f ops o s' = footW cfg f ops o s := by unfold footW; rw [hs.t, ren_wantedA, ren_vals', ren_acls]
    simp only [adraw, eR, eW] at h ⊢
    split at h
    · rename_i hcd
      rw [if_pos hcd]
      cases hp : astep P cfg call f ops o s with
      | none => rw [hp] at h; cases h
      | some r0 =>
        obtain ⟨r', h1, h2⟩ := astep_ren hf hc hp hs
        rw [hp] at h
        rw [h1]
        cases h2 with
        | next hs' => exact ih h hs'
        | panic v hs' => cases h
    · cases h

theorem ren_maskTmps (m : Nat) : ∀ (l : List AV) (i : Nat), maskTmps m i (l.map (AV.ren ρ)) = (maskTmps m i l).map (AV.ren ρ)
  | [], i => rfl
  | v :: r, i => by
    simp only [List.map_cons, maskTmps, ren_maskTmps m r]
    split <;> rfl

theorem ren_maskLh (m : Nat) : ∀ (l : List (Option LCell)) (i : Nat), maskLh m i (l.map (Option.map (renL ρ))) = (maskLh m i l).map (Option.map (renL ρ))
  | [], i => rfl
  | c :: r, i => by
    simp only [List.map_cons, maskLh, ren_maskLh m r]
    split <;> rfl

theorem ren_lpIn (m : Nat) (v : AV) : lpIn m (v.ren ρ) = lpIn m v := by cases v <;> simp [lpIn]

/-! ### the cut -/

theorem lows_all (m : Nat) : ∀ l : List AV, lows m l = l.all (AV.low m)
  | [] => rfl
  | a :: l => by rw [lows, lows_all m l]; rfl
theorem lowss_all (m : Nat) : ∀ l : List (List AV), lowss m l = l.all (lows m)
  | [] => rfl
  | a :: l => by rw [lowss, lowss_all m l]; rfl

section
variable {a b : Nat}
mutual
theorem ren_low (hab : ∀ i, Nat.blt (ρ i) b = Nat.blt i a) : ∀ v : AV, (v.ren ρ).low b = v.low a
  | .any => rfl
  | .val _ => rfl
  | .slice _ rows _ => by rw [AV.ren, AV.low, AV.low]; exact ren_lowss hab rows
  | .ref cs => by rw [AV.ren, AV.low, AV.low]; exact ren_lows hab cs
  | .ptr id _ => by rw [AV.ren, AV.low, AV.low]; exact hab id
  | .lp _ _ _ => rfl
  | .func _ x y => by rw [AV.ren, AV.low, AV.low, ren_lows hab x, ren_lows hab y]
  | .iface _ v => by rw [AV.ren, AV.low, AV.low]; exact ren_low hab v
  | .agg cs => by rw [AV.ren, AV.low, AV.low]; exact ren_lows hab cs
  | .tuple vs => by rw [AV.ren, AV.low, AV.low]; exact ren_lows hab vs
theorem ren_lows (hab : ∀ i, Nat.blt (ρ i) b = Nat.blt i a) : ∀ l : List AV, lows b (rens ρ l) = lows a l
  | [] => rfl
  | v :: l => by rw [rens, lows, lows, ren_low hab v, ren_lows hab l]
theorem ren_lowss (hab : ∀ i, Nat.blt (ρ i) b = Nat.blt i a) : ∀ l : List (List AV), lowss b (renss ρ l) = lowss a l
  | [] => rfl
  | r :: l => by rw [renss, lowss, lowss, ren_lows hab r, ren_lowss hab l]
end
mutual
theorem low_mono (hab : a ≤ b) : ∀ v : AV, v.low a = true → v.low b = true
  | .any => fun _ => rfl
  | .val _ => fun _ => rfl
  | .slice _ rows _ => by rw [AV.low, AV.low]; exact lowss_mono hab rows
  | .ref cs => by rw [AV.low, AV.low]; exact lows_mono hab cs
  | .ptr id _ => by rw [AV.low, AV.low, Nat.blt_eq, Nat.blt_eq]; omega
  | .lp _ _ _ => fun _ => rfl
  | .func _ x y => by
    rw [AV.low, AV.low, Bool.and_eq_true, Bool.and_eq_true]
    exact fun h => ⟨lows_mono hab x h.1, lows_mono hab y h.2⟩
  | .iface _ v => by rw [AV.low, AV.low]; exact low_mono hab v
  | .agg cs => by rw [AV.low, AV.low]; exact lows_mono hab cs
  | .tuple vs => by rw [AV.low, AV.low]; exact lows_mono hab vs
theorem lows_mono (hab : a ≤ b) : ∀ l : List AV, lows a l = true → lows b l = true
  | [] => fun _ => rfl
  | v :: l => by
    rw [lows, lows, Bool.and_eq_true, Bool.and_eq_true]
    exact fun h => ⟨low_mono hab v h.1, lows_mono hab l h.2⟩
theorem lowss_mono (hab : a ≤ b) : ∀ l : List (List AV), lowss a l = true → lowss b l = true
  | [] => fun _ => rfl
  | v :: l => by
    rw [lowss, lowss, Bool.and_eq_true, Bool.and_eq_true]
    exact fun h => ⟨lows_mono hab v h.1, lowss_mono hab l h.2⟩
end
end

theorem Fr.blt (hf : Fr ρ n N F) {m : Nat} (hm : n ≤ m) (i : Nat) : Nat.blt (ρ i) (m - n + N) = Nat.blt i m := by
  rw [Bool.eq_iff_iff, Nat.blt_eq, Nat.blt_eq]
  rcases Nat.lt_or_ge i n with hi | hi
  · have := hf.lo i hi; omega
  · have := hf.hi i hi; omega

theorem HR.lowss (hf : Fr ρ n N F) {H K : Heap} (h : HR ρ n N F H K) {m : Nat} (hm : n ≤ m) : lowss (m - n + N) (K.take (m - n + N)) = lowss m (H.take m) := by
  rw [Bool.eq_iff_iff, lowss_all, lowss_all, List.all_eq_true, List.all_eq_true]
  have im : ∀ (i : Nat) cs, H[i]? = some cs → lows (m - n + N) (cs.map (AV.ren ρ)) = lows m cs := fun i cs _ => by
    rw [← rens_map]; exact ren_lows (hf.blt hm) cs
  constructor
  · intro hk cs hcs
    obtain ⟨i, hi, rfl⟩ := List.mem_iff_getElem.1 hcs
    simp only [List.length_take] at hi
    rw [List.getElem_take]
    have e := h.im i
    have e0 : H[i]? = some (H[i]'(by omega)) := List.getElem?_eq_getElem (by omega)
    rw [e0] at e
    rw [← im i _ e0]
    refine hk _ (List.mem_of_getElem? (i := ρ i) ?_)
    rw [List.getElem?_take, if_pos]
    · exact e
    · have := hf.blt hm i
      rw [Bool.eq_iff_iff, Nat.blt_eq, Nat.blt_eq] at this
      exact this.2 (by omega)
  · intro hh cs hcs
    obtain ⟨j, hj, rfl⟩ := List.mem_iff_getElem.1 hcs
    simp only [List.length_take] at hj
    rw [List.getElem_take]
    have him : ∀ i, i < m → ρ i = j → lows (m - n + N) (K[j]'(by omega)) = true := by
      intro i hi e
      subst e
      have e := h.im i
      rw [List.getElem?_eq_getElem (by omega)] at e
      cases hHi : H[i]? with
      | none => rw [hHi] at e; cases e
      | some cs =>
        rw [hHi] at e
        simp only [Option.map_some, Option.some.injEq] at e
        rw [e, im i cs hHi]
        refine hh cs (List.mem_of_getElem? (i := i) ?_)
        rw [List.getElem?_take, if_pos hi]; exact hHi
    by_cases hex : ∃ i, i < m ∧ ρ i = j
    · obtain ⟨i, hi, e⟩ := hex; exact him i hi e
    · have hjN : j < N := by
        rcases Nat.lt_or_ge j N with h1 | h1
        · exact h1
        · exact absurd ⟨j - N + n, by omega, by have := hf.hi (j - N + n) (by omega); omega⟩ hex
      have e := h.off j hjN (fun i hi e => hex ⟨i, by omega, e⟩)
      rw [List.getElem?_eq_getElem (by omega)] at e
      exact lows_mono (by omega) _ (hf.low j _ e.symm hjN (fun i hi e => hex ⟨i, by omega, e⟩))

theorem HR.take (hf : Fr ρ n N F) {H K : Heap} (h : HR ρ n N F H K) {m : Nat} (hm : n ≤ m) : HR ρ n N F (H.take m) (K.take (m - n + N)) := by
  have h1 := h.le
  have h2 := h.len
  refine ⟨by simp; omega, by simp; omega, ?_, ?_⟩
  · intro i
    have := hf.blt hm i
    rw [Bool.eq_iff_iff, Nat.blt_eq, Nat.blt_eq] at this
    rw [List.getElem?_take, List.getElem?_take]
    by_cases hi : i < m
    · rw [if_pos hi, if_pos (this.2 hi)]; exact h.im i
    · rw [if_neg hi, if_neg (fun hh => hi (this.1 hh))]; rfl
  · intro j hj hn
    rw [List.getElem?_take, if_pos (by omega)]; exact h.off j hj hn

theorem lowL_ren {a b : Nat} (hab : ∀ i, Nat.blt (ρ i) b = Nat.blt i a) : ∀ l : List (Option LCell), lowL b (l.map (Option.map (renL ρ))) = lowL a l
  | [] => rfl
  | none :: l => by simp only [List.map_cons, Option.map_none, lowL]; exact lowL_ren hab l
  | some (g, cs) :: l => by simp only [List.map_cons, Option.map_some, renL, lowL, lowL_ren hab l, ← rens_map, ren_lows hab]

theorem lowD_ren {a b : Nat} (hab : ∀ i, Nat.blt (ρ i) b = Nat.blt i a) : ∀ l : List ADef, lowD b (l.map (renD ρ)) = lowD a l
  | [] => rfl
  | d :: l => by simp only [List.map_cons, renD, lowD, lowD_ren hab l, ← rens_map, ren_lows hab]

theorem lowRM_ren {a b : Nat} (hab : ∀ i, Nat.blt (ρ i) b = Nat.blt i a) (m : RM) : lowRM b (renRM ρ m) = lowRM a m := by
  cases m with
  | panicking v r => exact ren_low hab v
  | _ => rfl

theorem cutSt_ren (hf : Fr ρ n N F) {s s' : St} (hs : SRl ρ n N F s s') : SRl ρ n N F (cutSt s) (cutSt s') := by
  obtain ⟨hb1, hb2⟩ := hs.g.bs
  have h2 := hs.g.H.len
  have h1 := hs.g.H.le
  have e1 : Nat.ble s'.g.H.length s'.g.base = Nat.ble s.g.H.length s.g.base := by
    rw [Bool.eq_iff_iff, Nat.ble_eq, Nat.ble_eq]; omega
  have e2 : lowSt s'.g.base s' = lowSt s.g.base s := by
    have hab := hf.blt hb1
    unfold lowSt
    rw [hs.t, hs.l, hs.g.df, hs.g.rm, hb2, lowL_ren hab, lowD_ren hab, lowRM_ren hab, hs.g.H.lowss hf hb1, ← rens_map, ren_lows hab]
  unfold cutSt
  rw [e1, e2]
  split
  · exact hs
  · split
    · refine ⟨hs.t, hs.l, ?_, hs.g.df, hs.g.rm, hs.g.bs⟩
      simp only
      rw [hb2]; exact hs.g.H.take hf hb1
    · exact hs

theorem maskSt_ren (hf : Fr ρ n N F) {live : Option Nat} {s s' s1 : St} (h : maskSt live s = some s1) (hs : SRl ρ n N F s s') : ∃ s1', maskSt live s' = some s1' ∧ SRl ρ n N F s1 s1' := by
  unfold maskSt at h ⊢
  cases live with
  | none =>
    simp only [Option.some.injEq] at h; subst h
    exact ⟨s', rfl, hs⟩
  | some m =>
    simp only at h ⊢
    have e : (maskTmps m 0 s'.tmps).all (lpIn m) = (maskTmps m 0 s.tmps).all (lpIn m) := by
      rw [hs.t, ren_maskTmps, List.all_map]
      congr 1; funext v; exact ren_lpIn m v
    rw [e]
    split at h
    · rename_i hc
      rw [if_pos hc]
      have h0 : SRl ρ n N F { s with tmps := maskTmps m 0 s.tmps, lh := maskLh m 0 s.lh } { s' with tmps := maskTmps m 0 s'.tmps, lh := maskLh m 0 s'.lh } :=
        ⟨by rw [hs.t]; exact ren_maskTmps .., by rw [hs.l]; exact ren_maskLh .., hs.g⟩
      split at h
      · simp only [Option.some.injEq] at h; subst h
        exact ⟨_, rfl, cutSt_ren hf h0⟩
      · simp only [Option.some.injEq] at h; subst h
        exact ⟨_, rfl, h0⟩
    · cases h

theorem aloop_ren (hf : Fr ρ n N F) {live : Option Nat} {body : St → Option (AX × St)} (hb : ∀ s s' x s1, body s = some (x, s1) → SRl ρ n N F s s' → ∃ s1', body s' = some (renX ρ x, s1') ∧ SRl ρ n N F s1 s1') :
    ∀ {k : Nat} {s s' : St} {x : AX} {s1 : St}, aloop live body k s = some (x, s1) → SRl ρ n N F s s' → ∃ s1', aloop live body k s' = some (renX ρ x, s1') ∧ SRl ρ n N F s1 s1' := by
  intro k
  induction k with
  | zero => intro s s' x s1 h; simp [aloop] at h
  | succ k ih =>
    intro s s' x s1 h hs
    simp only [aloop] at h ⊢
    cases hm : maskSt live s with
    | none => rw [hm] at h; cases h
    | some s0 =>
      obtain ⟨s0', h1, h2⟩ := maskSt_ren hf hm hs
      rw [hm] at h
      rw [h1]
      simp only at h ⊢
      cases hp : body s0 with
      | none => rw [hp] at h; cases h
      | some p =>
        obtain ⟨y, s2⟩ := p
        obtain ⟨s2', h3, h4⟩ := hb _ _ _ _ hp h2
        rw [hp] at h
        rw [h3]
        cases y with
        | normal => exact ih h h4
        | exit id =>
          simp only [Option.some.injEq, Prod.mk.injEq] at h
          obtain ⟨rfl, rfl⟩ := h; exact ⟨_, rfl, h4⟩
        | ret =>
          simp only [Option.some.injEq, Prod.mk.injEq] at h
          obtain ⟨rfl, rfl⟩ := h; exact ⟨_, rfl, h4⟩
        | panic v =>
          simp only [Option.some.injEq, Prod.mk.injEq] at h
          obtain ⟨rfl, rfl⟩ := h; exact ⟨_, rfl, h4⟩

theorem acode_ren (hf : Fr ρ n N F) (hc : CallR ρ n N F call) {k : Nat} {f : FuncId} : ∀ {c : Code} {b : Nat} {s s' : St} {x : AX} {s1 : St}, acode P cfg call k f b c s = some (x, s1) → SRl ρ n N F s s' →
    ∃ s1', acode P cfg call k f b c s' = some (renX ρ x, s1') ∧ SRl ρ n N F s1 s1' := by
  intro c
  induction c with
  | skip =>
    intro b s s' x s1 h hs
    simp only [acode, Option.some.injEq, Prod.mk.injEq] at h ⊢
    obtain ⟨rfl, rfl⟩ := h
    exact ⟨s', ⟨rfl, rfl⟩, hs⟩
  | region id ops d =>
    intro b s s' x s1 h hs
    cases d with
    | false => simp only [acode] at h ⊢; exact aops_ren hf hc h hs
    | true =>
      simp only [acode] at h ⊢
      cases hp : adraw P cfg call f ops ops.toList 0 [] [] s with
      | none => rw [hp] at h; cases h
      | some s2 =>
        obtain ⟨s2', h1, h2⟩ := adraw_ren hf hc hp hs
        rw [hp] at h
        rw [h1]
        simp only [Option.some.injEq, Prod.mk.injEq] at h
        obtain ⟨rfl, rfl⟩ := h
        exact ⟨_, rfl, h2⟩
  | seq c1 c2 ih1 ih2 =>
    intro b s s' x s1 h hs
    simp only [acode] at h ⊢
    cases hp : acode P cfg call k f b c1 s with
    | none => rw [hp] at h; cases h
    | some p =>
      obtain ⟨y, s2⟩ := p
      obtain ⟨s2', h1, h2⟩ := ih1 hp hs
      rw [hp] at h
      rw [h1]
      cases y with
      | normal =>
        simp only [renX] at h ⊢
        split at h
        · rename_i s3 hm
          obtain ⟨s3', h3, h4⟩ := maskSt_ren hf hm h2
          rw [h3]
          exact ih2 h h4
        · cases h
      | exit id =>
        simp only [Option.some.injEq, Prod.mk.injEq] at h
        obtain ⟨rfl, rfl⟩ := h; exact ⟨_, rfl, h2⟩
      | ret =>
        simp only [Option.some.injEq, Prod.mk.injEq] at h
        obtain ⟨rfl, rfl⟩ := h; exact ⟨_, rfl, h2⟩
      | panic v =>
        simp only [Option.some.injEq, Prod.mk.injEq] at h
        obtain ⟨rfl, rfl⟩ := h; exact ⟨_, rfl, h2⟩
  | cond c x y ihx ihy =>
    intro b s s' x s1 h hs
    simp only [acode] at h ⊢
    rw [hs.t, ren_aeval]
    split at h
    · rename_i e; rw [e]; exact ihx h hs
    · rename_i e; rw [e]; exact ihy h hs
    · cases h
  | block id c ih =>
    intro b s s' x s1 h hs
    simp only [acode] at h ⊢
    cases hp : acode P cfg call k f id c s with
    | none => rw [hp] at h; cases h
    | some p =>
      obtain ⟨y, s2⟩ := p
      obtain ⟨s2', h1, h2⟩ := ih hp hs
      rw [hp] at h
      rw [h1]
      cases y with
      | exit id' =>
        simp only [renX] at h ⊢
        split at h
        · rename_i e
          rw [if_pos e]
          simp only [Option.some.injEq, Prod.mk.injEq] at h
          obtain ⟨rfl, rfl⟩ := h; exact ⟨_, rfl, h2⟩
        · rename_i e
          rw [if_neg e]
          simp only [Option.some.injEq, Prod.mk.injEq] at h
          obtain ⟨rfl, rfl⟩ := h; exact ⟨_, rfl, h2⟩
      | normal =>
        simp only [Option.some.injEq, Prod.mk.injEq] at h
        obtain ⟨rfl, rfl⟩ := h; exact ⟨_, rfl, h2⟩
      | ret =>
        simp only [Option.some.injEq, Prod.mk.injEq] at h
        obtain ⟨rfl, rfl⟩ := h; exact ⟨_, rfl, h2⟩
      | panic v =>
        simp only [Option.some.injEq, Prod.mk.injEq] at h
        obtain ⟨rfl, rfl⟩ := h; exact ⟨_, rfl, h2⟩
  | scope c ih =>
    intro b s s' x s1 h hs
    simp only [acode] at h ⊢
    exact ih h hs
  | label l =>
    intro b s s' x s1 h hs
    simp only [acode, Option.some.injEq, Prod.mk.injEq] at h ⊢
    obtain ⟨rfl, rfl⟩ := h
    exact ⟨s', ⟨rfl, rfl⟩, hs⟩
  | loop c ih =>
    intro b s s' x s1 h hs
    simp only [acode] at h ⊢
    exact aloop_ren hf (fun s s' x s1 h hs => ih h hs) h hs
  | exit id =>
    intro b s s' x s1 h hs
    simp only [acode, Option.some.injEq, Prod.mk.injEq] at h ⊢
    obtain ⟨rfl, rfl⟩ := h
    exact ⟨s', ⟨rfl, rfl⟩, hs⟩
  | ret =>
    intro b s s' x s1 h hs
    simp only [acode, Option.some.injEq, Prod.mk.injEq] at h ⊢
    obtain ⟨rfl, rfl⟩ := h
    exact ⟨s', ⟨rfl, rfl⟩, hs⟩
  | _ => intro b s s' x s1 h; simp [acode] at h

theorem ren_settle (m : RM) : settleA (renRM ρ m) = renRM ρ (settleA m) := by
  cases m with
  | panicking v r => cases r <;> rfl
  | _ => rfl

theorem adefers_ren (hc : CallR ρ n N F call) : ∀ {l : List ADef} {m : RM} {H K : Heap} {m1 : RM} {H1 : Heap}, adefers call l m H = some (m1, H1) → HR ρ n N F H K →
    ∃ K1, adefers call (l.map (renD ρ)) (renRM ρ m) K = some (renRM ρ m1, K1) ∧ HR ρ n N F H1 K1 := by
  intro l
  induction l with
  | nil =>
    intro m H K m1 H1 h hH
    simp only [adefers, Option.some.injEq, Prod.mk.injEq] at h
    obtain ⟨rfl, rfl⟩ := h
    exact ⟨K, rfl, hH⟩
  | cons d l ih =>
    intro m H K m1 H1 h hH
    simp only [List.map_cons, adefers, renD] at h ⊢
    split at h
    · rename_i v m' H' e
      obtain ⟨⟨o, rm', K'⟩, e', h1, h2, h3⟩ := hc _ _ _ _ _ e _ hH
      simp only [renOut] at h1 h2; subst h1; subst h2
      rw [e']
      simp only [ren_settle]
      exact ih h h3
    · rename_i v m' H' e
      obtain ⟨⟨o, rm', K'⟩, e', h1, h2, h3⟩ := hc _ _ _ _ _ e _ hH
      simp only [renOut] at h1; subst h1
      rw [e']
      exact ih h h3
    · cases h

theorem aresult_ren {s s' : St} {H K : Heap} (hs : SRl ρ n N F s s') (hH : HR ρ n N F H K) (r : ResultVar) {v : AV} (h : aresult P s H r = some v) : aresult P s' K r = some (v.ren ρ) := by
  cases r with
  | tmp t =>
    simp only [aresult, hs.t, getD_ren, ren_isLp] at h ⊢
    split at h
    · cases h
    · rename_i e
      rw [if_neg e]
      simp only [Option.some.injEq] at h; subst h; rfl
  | cell a t =>
    simp only [aresult, hs.t, hs.l, getD_ren] at h ⊢
    cases ha : s.tmps.getD a .any with
    | ref cs =>
      rw [ha] at h
      simp only [ren_ref] at h ⊢
      rw [ren_readCells, h]; rfl
    | ptr id o =>
      rw [ha] at h
      simp only [ren_ptr, hH.im] at h ⊢
      cases hc : H[id]? with
      | none => rw [hc] at h; cases h
      | some cs =>
        rw [hc] at h
        simp only [Option.map_some] at h ⊢
        rw [ren_readCells, h]; rfl
    | lp l g o =>
      rw [ha] at h
      simp only [ren_lp, List.getElem?_map] at h ⊢
      cases hc : s.lh[l]? with
      | none => rw [hc] at h; cases h
      | some c => cases c with
        | none => rw [hc] at h; cases h
        | some c =>
          obtain ⟨g', cs⟩ := c
          rw [hc] at h
          simp only [Option.map_some, renL] at h ⊢
          split at h
          · rename_i e
            rw [if_pos e, ren_readCells, h]; rfl
          · cases h
    | _ => rw [ha] at h; simp at h

theorem aresults_ren {s s' : St} {H K : Heap} (hs : SRl ρ n N F s s') (hH : HR ρ n N F H K) : ∀ (rs : List ResultVar) {l : List AV}, aresults P s H rs = some l → aresults P s' K rs = some (l.map (AV.ren ρ))
  | [], l, h => by simp only [aresults, Option.some.injEq] at h; subst h; rfl
  | r :: rs, l, h => by
    simp only [aresults] at h ⊢
    cases h1 : aresult P s H r with
    | none => rw [h1] at h; cases h
    | some v => cases h2 : aresults P s H rs with
      | none => rw [h1, h2] at h; cases h
      | some l' =>
        rw [h1, h2] at h
        simp only [Option.some.injEq] at h; subst h
        rw [aresult_ren hs hH r h1, aresults_ren hs hH rs h2]; rfl

theorem ren_resultOf (l : List AV) : resultOf (l.map (AV.ren ρ)) = (resultOf l).ren ρ := by
  match l with
  | [] => simp [resultOf]
  | [v] => rfl
  | a :: b :: r =>
    simp only [List.map_cons, resultOf, ren_tuple, AV.tuple.injEq, ren_dis, List.cons.injEq, true_and]
    exact (ren_dis_map r).symm

theorem afinish_ren (hc : CallR ρ n N F call) {fn : Func} {s s' : St} {m : RM} {r : CRes} (h : afinish P call fn s m = some r) (hs : SRl ρ n N F s s') :
    ∃ r', afinish P call fn s' (renRM ρ m) = some r' ∧ RRl ρ n N F r r' := by
  unfold afinish at h ⊢
  rw [hs.g.rm, hs.g.df]
  cases hrm : s.g.rm with
  | none =>
    rw [hrm] at h
    have e0 : renRM ρ .none = .none := rfl
    simp only [e0] at h ⊢
    split at h
    · rename_i H e
      obtain ⟨K1, h1, h2⟩ := adefers_ren hc e hs.g.H
      rw [h1]
      simp only [renRM]
      split at h
      · rename_i l e2
        simp only [Option.some.injEq] at h; subst h
        rw [aresults_ren hs h2 _ e2]
        exact ⟨_, rfl, ⟨by simp only [renOut, ren_resultOf], rfl, h2⟩⟩
      · cases h
    · rename_i v H e
      obtain ⟨K1, h1, h2⟩ := adefers_ren hc e hs.g.H
      rw [h1]
      simp only [Option.some.injEq] at h; subst h
      exact ⟨_, rfl, ⟨rfl, rfl, h2⟩⟩
    · cases h
  | returning =>
    rw [hrm] at h
    simp only [renRM, List.isEmpty_map] at h ⊢
    split at h
    · rename_i he
      rw [if_pos he]
      cases m with
      | returning =>
        simp only at h ⊢
        split at h
        · rename_i l e2
          simp only [Option.some.injEq] at h; subst h
          rw [aresults_ren hs hs.g.H _ e2]
          exact ⟨_, rfl, ⟨by simp only [renOut, ren_resultOf], rfl, hs.g.H⟩⟩
        · cases h
      | panicking v b => cases b with
        | false =>
          simp only [Option.some.injEq] at h; subst h
          exact ⟨_, rfl, ⟨rfl, rfl, hs.g.H⟩⟩
        | true => cases h
      | none => cases h
    · cases h
  | panicking v0 b0 =>
    rw [hrm] at h
    simp only [renRM, List.isEmpty_map] at h ⊢
    split at h
    · rename_i he
      rw [if_pos he]
      cases m with
      | returning =>
        simp only at h ⊢
        split at h
        · rename_i l e2
          simp only [Option.some.injEq] at h; subst h
          rw [aresults_ren hs hs.g.H _ e2]
          exact ⟨_, rfl, ⟨by simp only [renOut, ren_resultOf], rfl, hs.g.H⟩⟩
        · cases h
      | panicking v b => cases b with
        | false =>
          simp only [Option.some.injEq] at h; subst h
          exact ⟨_, rfl, ⟨rfl, rfl, hs.g.H⟩⟩
        | true => cases h
      | none => cases h
    · cases h

theorem abody_ren (hf : Fr ρ n N F) (hc : CallR ρ n N F call) {k : Nat} {f : FuncId} {fn : Func} {c : Code} {args : List AV} {rm : RM} {H K : Heap} {r : CRes} (h : abody P cfg call k f fn c args rm H = some r) (hH : HR ρ n N F H K) :
    ∃ r', abody P cfg call k f fn c (args.map (AV.ren ρ)) (renRM ρ rm) K = some r' ∧ RRl ρ n N F r r' := by
  unfold abody at h ⊢
  have h0 : SRl ρ n N F ⟨args ++ List.replicate (fn.ntmps - args.length) (.val undef), List.replicate fn.ntmps none, ⟨H, [], rm, H.length⟩⟩
      ⟨args.map (AV.ren ρ) ++ List.replicate (fn.ntmps - (args.map (AV.ren ρ)).length) (.val undef), List.replicate fn.ntmps none, ⟨K, [], renRM ρ rm, K.length⟩⟩ :=
    ⟨by simp, by simp, ⟨hH, rfl, rfl, hH.le, hH.len⟩⟩
  split at h
  · rename_i s e
    obtain ⟨s', e', hs⟩ := acode_ren hf hc e h0
    rw [e']
    exact afinish_ren hc h hs
  · rename_i s e
    obtain ⟨s', e', hs⟩ := acode_ren hf hc e h0
    rw [e']
    exact afinish_ren hc h hs
  · rename_i v s e
    obtain ⟨s', e', hs⟩ := acode_ren hf hc e h0
    rw [e']
    exact afinish_ren hc h hs
  · cases h

theorem cutRes_ren (hf : Fr ρ n N F) {r r' : CRes} (h : RRl ρ n N F r r') {H K : Heap} (hH : HR ρ n N F H K) : RRl ρ n N F (cutRes H.length r) (cutRes K.length r') := by
  have h1 := hH.le
  have h2 := hH.len
  have h3 := h.H.len
  have h4 := h.H.le
  have e1 : Nat.ble r'.H.length K.length = Nat.ble r.H.length H.length := by
    rw [Bool.eq_iff_iff, Nat.ble_eq, Nat.ble_eq]; omega
  have e2 : r'.out.low K.length = r.out.low H.length := by
    rw [h.o, h2]
    cases r.out with
    | ret v => exact ren_low (hf.blt h1) v
    | panic v => exact ren_low (hf.blt h1) v
  have e3 : Eng.lowss K.length (r'.H.take K.length) = Eng.lowss H.length (r.H.take H.length) := by
    rw [h2]; exact h.H.lowss hf h1
  unfold cutRes
  rw [e1, e2, e3]
  split
  · exact h
  · split
    · refine ⟨h.o, h.rm, ?_⟩
      rw [h2]; exact h.H.take hf h1
    · exact h

theorem normV_ren (t : TypeId) (v : AV) : (normV P t v).ren ρ = normV P t (v.ren ρ) := by
  cases v with
  | slice sz rows own =>
    unfold normV
    simp only [AV.ren]
    split
    · split
      · split
        · rfl
        · cases rows with
          | nil => rfl
          | cons r l => rfl
      · rfl
    · rfl
  | _ => rfl
theorem normL_ren : ∀ (ts : List TypeId) (vs : List AV), rens ρ (normL P ts vs) = normL P ts (rens ρ vs)
  | [], vs => by unfold normL; rfl
  | t :: ts, [] => rfl
  | t :: ts, v :: vs => by simp only [normL, rens, normV_ren, normL_ren ts vs]
theorem normRes_ren {b : Bool} {ts : List TypeId} {r r' : CRes} (h : RRl ρ n N F r r') : RRl ρ n N F (normRes P b ts r) (normRes P b ts r') := by
  cases b with
  | false => exact h
  | true =>
    refine ⟨?_, h.rm, h.H⟩
    simp only [normRes, h.o]
    cases r.out with
    | panic v => rfl
    | ret v =>
      simp only [normO, renOut]
      split
      · simp only [normV_ren]
      · cases v with
        | tuple vs => simp only [AV.ren, normL_ren]
        | _ => rfl

/-- Contracts go along with a heap that is greater. -/
def ExtR (ρ : Nat → Nat) (n N : Nat) (F : Heap) (ext : Ext) : Prop :=
  ∀ f e, ext f = some e → ∀ args H out H', e args H = some (out, H') → ∀ K, HR ρ n N F H K → ∃ K', e (args.map (AV.ren ρ)) K = some (renOut ρ out, K') ∧ HR ρ n N F H' K'

theorem extR_none : ExtR ρ n N F (fun _ => none) := fun f e h => by cases h

theorem acall_ren {ext : Ext} (hf : Fr ρ n N F) (hx : ExtR ρ n N F ext) : ∀ k, CallR ρ n N F (acall P cfg ext k) := by
  intro k
  induction k with
  | zero => intro f args rm H r h; simp [acall] at h
  | succ k ih =>
    intro f args rm H r h K hH
    simp only [acall] at h ⊢
    split at h
    · rename_i e he
      split at h
      · split at h
        · rename_i out H' heq
          simp only [Option.some.injEq] at h; subst h
          obtain ⟨K', k1, k2⟩ := hx f e he args H out H' heq K hH
          simp only [renRM, k1]
          exact ⟨_, rfl, rfl, rfl, k2⟩
        · cases h
      · cases h
    · split at h
      · cases h
      · split at h
        · cases h
        rw [Option.map_eq_some_iff] at h
        obtain ⟨r0, h, rfl⟩ := h
        obtain ⟨r', h1, h2⟩ := abody_ren hf ih h hH
        rw [h1]
        refine ⟨_, rfl, ?_⟩
        cases rm with
        | none => exact normRes_ren (cutRes_ren hf h2 hH)
        | returning => exact normRes_ren h2
        | panicking v b => exact normRes_ren h2

/-- What a function does in a heap it does in a greater one. -/
theorem ev_ren {ext : Ext} (hf : Fr ρ n N F) (hx : ExtR ρ n N F ext) : CallR ρ n N F (ev P cfg ext) := by
  intro f args rm H r h K hH
  obtain ⟨k, hk⟩ := ev_iff.1 h
  obtain ⟨r', h1, h2⟩ := acall_ren hf hx k f args rm H r hk K hH
  exact ⟨r', ev_iff.2 ⟨k, h1⟩, h2⟩
end
end Go.Eng
