/- Texts of this proof folded into one: E12 E13 E14 E15 E15b E16 E17 E18b E24 E25 E26 E18. -/
import Derived.Test.YtajjoaphfeamiaaQ1
import Derived.Scope
import Derived.ChangeArms
import Derived.ChangeSlices
import Derived.DataReads
import Derived.Below
section
/-
  THE ENGINE, part 12: a region whose order is drawn: what the text's order comes to, every order comes to.
-/
set_option linter.unusedVariables false
set_option linter.unusedSimpArgs false
namespace Go.Eng

/-- What lies at a place of a frame: 0 what is shared, 2 t + 1 the slot's variable, 2 t + 2 its value. -/
inductive LVal where
  | g (g : G)
  | l (c : Option (Option LCell))
  | t (v : Option AV)

def loc (s : St) (x : Nat) : LVal :=
  if x = 0 then .g s.g else if x % 2 = 1 then .l s.lh[x / 2]? else .t s.tmps[x / 2 - 1]?

theorem loc_t (s : St) (t : Nat) : loc s (2 * t + 2) = .t s.tmps[t]? := by
  unfold loc; rw [if_neg (by omega), if_neg (by omega)]; congr 2; omega
theorem loc_l (s : St) (t : Nat) : loc s (2 * t + 1) = .l s.lh[t]? := by
  unfold loc; rw [if_neg (by omega), if_pos (by omega)]; congr 2; omega
theorem loc_0 (s : St) : loc s 0 = .g s.g := rfl

theorem loc_ext {s s' : St} (h : ∀ x, loc s x = loc s' x) : s = s' := by
  obtain ⟨a, b, c⟩ := s
  obtain ⟨a', b', c'⟩ := s'
  have h0 := h 0
  simp only [loc_0, LVal.g.injEq] at h0
  have h1 : a = a' := List.ext_getElem? fun i => by have := h (2 * i + 2); simpa [loc_t] using this
  have h2 : b = b' := List.ext_getElem? fun i => by have := h (2 * i + 1); simpa [loc_l] using this
  subst h0 h1 h2; rfl

def SameLen (s s' : St) : Prop := s.tmps.length = s'.tmps.length ∧ s.lh.length = s'.lh.length

theorem tmpBits_spec : ∀ (xs : List Operand) (t : Nat), .tmp t ∈ xs → (tmpBits xs).testBit (2 * t + 2) = true
  | .tmp u :: r, t, h => by
    simp only [tmpBits, Nat.testBit_or, Nat.testBit_two_pow, Bool.or_eq_true, decide_eq_true_eq]
    simp only [List.mem_cons] at h
    rcases h with h | h
    · cases h; exact .inl rfl
    · exact .inr (tmpBits_spec r t h)
  | .const v :: r, t, h => by simp only [List.mem_cons] at h; rcases h with h | h; cases h; simpa [tmpBits] using tmpBits_spec r t h
  | .global v :: r, t, h => by simp only [List.mem_cons] at h; rcases h with h | h; cases h; simpa [tmpBits] using tmpBits_spec r t h
  | .func v :: r, t, h => by simp only [List.mem_cons] at h; rcases h with h | h; cases h; simpa [tmpBits] using tmpBits_spec r t h
  | [], t, h => by simp at h

theorem listBits_spec : ∀ (xs : List Tmp) (t : Nat), t ∈ xs → (listBits xs).testBit (2 * t + 2) = true
  | u :: r, t, h => by
    simp only [listBits, Nat.testBit_or, Nat.testBit_two_pow, Bool.or_eq_true, decide_eq_true_eq]
    simp only [List.mem_cons] at h
    rcases h with h | h
    · subst h; exact .inl rfl
    · exact .inr (listBits_spec r t h)
  | [], t, h => by simp at h

section
variable {P : Program} {cfg : FuncId → FCfg} {call : FuncId → List AV → RM → Heap → Option CRes}

theorem aeval_agree {a b : List AV} {x : Operand} (h : ∀ t, x = .tmp t → a[t]? = b[t]?) : aeval a x = aeval b x := by
  cases x with
  | tmp t => simp [aeval, List.getD_eq_getElem?_getD, h t rfl]
  | _ => rfl

theorem vals_agree {a b : List AV} : ∀ (xs : List Operand) (ms : List Bool), (∀ t, .tmp t ∈ xs → a[t]? = b[t]?) → vals a xs ms = vals b xs ms
  | [], ms, _ => by cases ms <;> rfl
  | x :: r, [], h => by simp only [vals]; rw [aeval_agree (fun t e => h t (by simp [e])), vals_agree r [] fun t ht => h t (by simp [ht])]
  | x :: r, m :: ms, h => by simp only [vals]; rw [aeval_agree (fun t e => h t (by simp [e])), vals_agree r ms fun t ht => h t (by simp [ht])]

theorem disT_get (a : List AV) : ∀ (xs : List Operand) (ms : List Bool) (i : Nat), (disT a xs ms)[i]? = if i ∈ movedTmps xs ms then (a[i]?).map AV.dis else a[i]?
  | [], ms, i => by simp [disT, movedTmps]
  | .tmp t :: r, true :: ms, i => by
    simp only [disT, movedTmps]
    rw [disT_get]
    by_cases e : t = i
    · subst e
      simp only [List.getElem?_modify, if_true, List.mem_cons, true_or]
      cases a[t]? with
      | none => simp
      | some v => simp [dis_dis]
    · have : i ≠ t := fun h => e h.symm
      simp [List.getElem?_modify, e, this]
  | .tmp t :: r, false :: ms, i => by simp only [disT, movedTmps]; exact disT_get a r ms i
  | .const _ :: r, m :: ms, i => by cases m <;> (simp only [disT, movedTmps]; exact disT_get a r ms i)
  | .global _ :: r, m :: ms, i => by cases m <;> (simp only [disT, movedTmps]; exact disT_get a r ms i)
  | .func _ :: r, m :: ms, i => by cases m <;> (simp only [disT, movedTmps]; exact disT_get a r ms i)
  | .tmp t :: r, [], i => by simp [disT, movedTmps]
  | .const _ :: r, [], i => by simp [disT, movedTmps]
  | .global _ :: r, [], i => by simp [disT, movedTmps]
  | .func _ :: r, [], i => by simp [disT, movedTmps]

theorem disT_length (a : List AV) : ∀ (xs : List Operand) (ms : List Bool), (disT a xs ms).length = a.length := by
  intro xs
  induction xs generalizing a with
  | nil => intro ms; simp [disT]
  | cons x xs ih =>
    intro ms
    cases ms with
    | nil => cases x <;> rfl
    | cons m ms => cases x <;> cases m <;> simp [disT, ih]

theorem moved_mem : ∀ (xs : List Operand) (ms : List Bool) (t : Tmp), t ∈ movedTmps xs ms → .tmp t ∈ xs
  | .tmp u :: r, true :: ms, t, h => by
    simp only [movedTmps, List.mem_cons] at h
    rcases h with rfl | h
    · simp
    · exact List.mem_cons_of_mem _ (moved_mem r ms t h)
  | .tmp u :: r, false :: ms, t, h => List.mem_cons_of_mem _ (moved_mem r ms t (by simpa [movedTmps] using h))
  | .const _ :: r, m :: ms, t, h => List.mem_cons_of_mem _ (moved_mem r ms t (by cases m <;> simpa [movedTmps] using h))
  | .global _ :: r, m :: ms, t, h => List.mem_cons_of_mem _ (moved_mem r ms t (by cases m <;> simpa [movedTmps] using h))
  | .func _ :: r, m :: ms, t, h => List.mem_cons_of_mem _ (moved_mem r ms t (by cases m <;> simpa [movedTmps] using h))
  | [], ms, t, h => by simp [movedTmps] at h
  | .tmp u :: r, [], t, h => by simp [movedTmps] at h
  | .const _ :: r, [], t, h => by simp [movedTmps] at h
  | .global _ :: r, [], t, h => by simp [movedTmps] at h
  | .func _ :: r, [], t, h => by simp [movedTmps] at h

theorem putT_get (a : List AV) (d : Option Tmp) (v : AV) (i : Nat) : (putT a d v)[i]? = if d = some i then (if i < a.length then some v else none) else a[i]? := by
  cases d with
  | none => simp [putT]
  | some t =>
    simp only [putT, List.getElem?_set, Option.some.injEq]
    by_cases e : t = i
    · subst e; simp
    · simp [e]

theorem wanted_agree {ops : Array Oper} {o : Oper} {a b : List AV} (h : ∀ t, guardTmp ops o = some t → a[t]? = b[t]?) : wantedA ops o a = wantedA ops o b := by
  unfold wantedA
  unfold guardTmp at h
  cases hg : o.guard with
  | none => rfl
  | some p =>
    obtain ⟨j, want⟩ := p
    simp only [hg] at h ⊢
    cases hd : (ops[j]?).bind (·.dst) with
    | none => rfl
    | some t => simp only [h t hd]

theorem aloc_same {f : FuncId} {o : Oper} {vs : List AV} {l : Nat} {c c' : Option LCell} {v : AV} (hcl : acls cfg f o vs = .loc l false) (hp : aloc P cfg f o vs c = some (v, c')) : c' = c := by
  cases hop : o.op <;> simp only [acls, hop] at hcl
  case alloc => split at hcl <;> (try split at hcl) <;> (try split at hcl) <;> simp at hcl
  case box => split at hcl <;> (try split at hcl) <;> (try split at hcl) <;> simp at hcl
  case load t x =>
    split at hcl
    · simp at hcl
    · simp only [Cls.loc.injEq] at hcl
      simp only [aloc, hop] at hp
      split at hp
      · split at hp
        · rename_i hgg
          rw [if_neg (by rw [hcl.2]; simp)] at hp
          simp only [Option.map_eq_some_iff, Prod.mk.injEq] at hp
          obtain ⟨_, _, _, rfl⟩ := hp
          rw [hgg]
        · cases hp
      · cases hp
    · simp at hcl
  case store => split at hcl <;> simp at hcl
  case call c0 => split at hcl <;> simp at hcl
  all_goals (simp at hcl)

theorem aglob_same {f : FuncId} {o : Oper} {vs : List AV} {m m' : G} {v : AV} (hcl : acls cfg f o vs = .glob false) (hp : aglob P cfg call f o vs m = some (.val v m')) : m' = m := by
  cases hop : o.op <;> simp only [acls, hop] at hcl
  case alloc => split at hcl <;> (try split at hcl) <;> (try split at hcl) <;> simp at hcl
  case box => split at hcl <;> (try split at hcl) <;> (try split at hcl) <;> simp at hcl
  case load t x =>
    split at hcl
    · simp only [Cls.glob.injEq] at hcl
      simp only [aglob, hop] at hp
      split at hp
      · rw [if_neg (by rw [hcl]; simp)] at hp
        simp only [Option.map_eq_some_iff, GR.val.injEq] at hp
        obtain ⟨_, _, _, rfl⟩ := hp
        rfl
      · cases hp
    · simp at hcl
    · simp at hcl
  case store => split at hcl <;> simp at hcl
  case call c0 => split at hcl <;> simp at hcl
  all_goals (simp at hcl)

/-- What an operation looks at alone decides what it does, and it writes but its own places. -/
theorem step_local {f : FuncId} {ops : Array Oper} {o : Oper} {s s' t : St} (hl : SameLen s s') (hs : astep P cfg call f ops o s = some (.next t))
    (hR : ∀ x, (footR cfg f ops o s).testBit x = true → loc s x = loc s' x) :
    footR cfg f ops o s' = footR cfg f ops o s ∧ footW cfg f ops o s' = footW cfg f ops o s ∧ SameLen s t ∧ (∀ x, (footW cfg f ops o s).testBit x = false → loc t x = loc s x) ∧
    ∃ t', astep P cfg call f ops o s' = some (.next t') ∧ SameLen s' t' ∧ (∀ x, (footW cfg f ops o s).testBit x = true → loc t' x = loc t x) ∧ (∀ x, (footW cfg f ops o s).testBit x = false → loc t' x = loc s' x) := by
  have hops : ∀ u, .tmp u ∈ o.op.operands.toList → s.tmps[u]? = s'.tmps[u]? := fun u hu => by
    have := hR (2 * u + 2) (by unfold footR; simp only [Nat.testBit_or, tmpBits_spec _ u hu, Bool.true_or])
    simpa [loc_t] using this
  have hgd : ∀ u, guardTmp ops o = some u → s.tmps[u]? = s'.tmps[u]? := fun u hu => by
    have := hR (2 * u + 2) (by unfold footR; simp [Nat.testBit_or, hu, optBit, Nat.testBit_two_pow])
    simpa [loc_t] using this
  have hw := wanted_agree hgd
  have hv : vals s'.tmps o.op.operands.toList (moves cfg f o) = vals s.tmps o.op.operands.toList (moves cfg f o) := (vals_agree _ _ hops).symm
  have eR : footR cfg f ops o s' = footR cfg f ops o s := by unfold footR; rw [← hw, hv]
  have eW : footW cfg f ops o s' = footW cfg f ops o s := by unfold footW; rw [← hw, hv]
  refine ⟨eR, eW, ?_⟩
  have hdW : ∀ u, o.dst = some u → (footW cfg f ops o s).testBit (2 * u + 2) = true := fun u hu => by
    unfold footW; simp [Nat.testBit_or, hu, optBit, Nat.testBit_two_pow]
  have hmW : ∀ u, u ∈ movedTmps o.op.operands.toList (moves cfg f o) → (footW cfg f ops o s).testBit (2 * u + 2) = true := fun u hu => by
    unfold footW; simp only [Nat.testBit_or, listBits_spec _ u hu, Bool.or_true, Bool.true_or]
  have hWi : ∀ x, (footW cfg f ops o s).testBit x = true → (∃ u, x = 2 * u + 2 ∧ (o.dst = some u ∨ u ∈ movedTmps o.op.operands.toList (moves cfg f o))) ∨
      (wantedA ops o s.tmps = some true ∧ ((∃ l, x = 2 * l + 1 ∧ acls cfg f o (vals s.tmps o.op.operands.toList (moves cfg f o)) = .loc l true) ∨ (x = 0 ∧ acls cfg f o (vals s.tmps o.op.operands.toList (moves cfg f o)) = .glob true))) := fun x hx => by
    unfold footW at hx
    simp only [Nat.testBit_or, Bool.or_eq_true] at hx
    rcases hx with (hx | hx) | hx
    · cases hd : o.dst with
      | none => simp [hd, optBit] at hx
      | some u => simp [hd, optBit, Nat.testBit_two_pow] at hx; exact .inl ⟨u, hx.symm, .inl rfl⟩
    · have key : ∀ (l : List Tmp), (listBits l).testBit x = true → ∃ u, x = 2 * u + 2 ∧ u ∈ l := by
        intro l
        induction l with
        | nil => intro h; simp [listBits] at h
        | cons u l ih =>
          intro h
          simp only [listBits, Nat.testBit_or, Nat.testBit_two_pow, Bool.or_eq_true, decide_eq_true_eq] at h
          rcases h with h | h
          · exact ⟨u, h.symm, by simp⟩
          · obtain ⟨z, h1, h2⟩ := ih h; exact ⟨z, h1, by simp [h2]⟩
      obtain ⟨u, h1, h2⟩ := key _ hx
      exact .inl ⟨u, h1, .inr h2⟩
    · right
      split at hx
      · rename_i hw
        refine ⟨hw, ?_⟩
        split at hx
        · rename_i l hc; simp [Nat.testBit_two_pow] at hx; exact .inl ⟨l, hx.symm, hc⟩
        · rename_i hc
          refine .inr ⟨?_, hc⟩
          have : (1 : Nat) = 2 ^ 0 := rfl
          rw [this, Nat.testBit_two_pow] at hx; simp at hx; exact hx.symm
        · simp at hx
      · simp at hx
  have hWl : ∀ l, wantedA ops o s.tmps = some true → acls cfg f o (vals s.tmps o.op.operands.toList (moves cfg f o)) = .loc l true → (footW cfg f ops o s).testBit (2 * l + 1) = true := fun l hw hc => by
    unfold footW; simp [Nat.testBit_or, hw, hc, Nat.testBit_two_pow]
  have hWg : wantedA ops o s.tmps = some true → acls cfg f o (vals s.tmps o.op.operands.toList (moves cfg f o)) = .glob true → (footW cfg f ops o s).testBit 0 = true := fun hw hc => by
    unfold footW; simp [Nat.testBit_or, hw, hc]
  -- the slots behind it
  have hin : ∀ v u, (o.dst = some u ∨ u ∈ movedTmps o.op.operands.toList (moves cfg f o)) →
      (putT (disT s'.tmps o.op.operands.toList (moves cfg f o)) o.dst v)[u]? = (putT (disT s.tmps o.op.operands.toList (moves cfg f o)) o.dst v)[u]? := fun v u hu => by
    rw [putT_get, putT_get, disT_length, disT_length, disT_get, disT_get, hl.1]
    by_cases hd : o.dst = some u
    · simp [hd]
    · have hm := hu.resolve_left hd
      simp only [hd, if_false, hm, if_true, hops u (moved_mem _ _ _ hm)]
  have hout : ∀ v u (a : List AV), o.dst ≠ some u → u ∉ movedTmps o.op.operands.toList (moves cfg f o) → (putT (disT a o.op.operands.toList (moves cfg f o)) o.dst v)[u]? = a[u]? := fun v u a h1 h2 => by
    rw [putT_get, disT_get, if_neg h1, if_neg h2]
  have hin0 : ∀ v u, (o.dst = some u ∨ u ∈ movedTmps o.op.operands.toList (moves cfg f o)) → (putT s'.tmps o.dst v)[u]? = (putT s.tmps o.dst v)[u]? := fun v u hu => by
    rw [putT_get, putT_get, hl.1]
    by_cases hd : o.dst = some u
    · simp [hd]
    · have hm := hu.resolve_left hd
      simp only [hd, if_false, hops u (moved_mem _ _ _ hm)]
  have hlenP : ∀ v (a : List AV), (putT a o.dst v).length = a.length := fun v a => by cases o.dst <;> simp [putT]
  have htodd : ∀ (x : Nat) (q : St), x ≠ 0 → x % 2 = 0 → loc q x = .t q.tmps[x / 2 - 1]? := fun x q h1 h2 => by unfold loc; rw [if_neg h1, if_neg (by omega)]
  have hlodd : ∀ (x : Nat) (q : St), x % 2 = 1 → loc q x = .l q.lh[x / 2]? := fun x q h2 => by unfold loc; rw [if_neg (by omega), if_pos h2]
  -- a step that turns the slots alone
  have hT : ∀ (T T' : List AV), T.length = s.tmps.length → T'.length = s'.tmps.length →
      (∀ u, (o.dst = some u ∨ u ∈ movedTmps o.op.operands.toList (moves cfg f o)) → T'[u]? = T[u]?) → (∀ u, o.dst ≠ some u → u ∉ movedTmps o.op.operands.toList (moves cfg f o) → T[u]? = s.tmps[u]? ∧ T'[u]? = s'.tmps[u]?) →
      ∀ (L L' : List (Option LCell)) (g1 g1' : G), L.length = s.lh.length → L'.length = s'.lh.length →
      (∀ l, (footW cfg f ops o s).testBit (2 * l + 1) = true → L'[l]? = L[l]?) → (∀ l, (footW cfg f ops o s).testBit (2 * l + 1) = false → L[l]? = s.lh[l]? ∧ L'[l]? = s'.lh[l]?) →
      ((footW cfg f ops o s).testBit 0 = true → g1' = g1) → ((footW cfg f ops o s).testBit 0 = false → g1 = s.g ∧ g1' = s'.g) →
      SameLen s ⟨T, L, g1⟩ ∧ (∀ x, (footW cfg f ops o s).testBit x = false → loc ⟨T, L, g1⟩ x = loc s x) ∧
      (SameLen s' ⟨T', L', g1'⟩ ∧ (∀ x, (footW cfg f ops o s).testBit x = true → loc ⟨T', L', g1'⟩ x = loc ⟨T, L, g1⟩ x) ∧ (∀ x, (footW cfg f ops o s).testBit x = false → loc ⟨T', L', g1'⟩ x = loc s' x)) := by
    intro T T' h1 h2 h3 h4 L L' g1 g1' h5 h6 h7 h8 h9 h10
    have hno : ∀ u, (footW cfg f ops o s).testBit (2 * u + 2) = false → o.dst ≠ some u ∧ u ∉ movedTmps o.op.operands.toList (moves cfg f o) := fun u hu => by
      refine ⟨fun h => ?_, fun h => ?_⟩
      · rw [hdW u h] at hu; cases hu
      · rw [hmW u h] at hu; cases hu
    refine ⟨⟨h1.symm, h5.symm⟩, fun x hx => ?_, ⟨h2.symm, h6.symm⟩, fun x hx => ?_, fun x hx => ?_⟩
    · by_cases hx0 : x = 0
      · subst hx0; simp only [loc_0]; rw [(h10 hx).1]
      · by_cases hx1 : x % 2 = 1
        · rw [hlodd x _ hx1, hlodd x _ hx1]
          have : x = 2 * (x / 2) + 1 := by omega
          rw [this] at hx
          simp only [(h8 _ hx).1]
        · rw [htodd x _ hx0 (by omega), htodd x _ hx0 (by omega)]
          have : x = 2 * (x / 2 - 1) + 2 := by omega
          rw [this] at hx
          obtain ⟨k1, k2⟩ := hno _ hx
          simp only [(h4 _ k1 k2).1]
    · by_cases hx0 : x = 0
      · subst hx0; simp only [loc_0]; rw [h9 hx]
      · by_cases hx1 : x % 2 = 1
        · rw [hlodd x _ hx1, hlodd x _ hx1]
          have : x = 2 * (x / 2) + 1 := by omega
          rw [this] at hx
          simp only [h7 _ hx]
        · rw [htodd x _ hx0 (by omega), htodd x _ hx0 (by omega)]
          rcases hWi x hx with ⟨u, e, hu⟩ | ⟨_, ⟨l, e, _⟩ | ⟨e, _⟩⟩
          · have : x / 2 - 1 = u := by omega
            simp only [this, h3 u hu]
          · omega
          · omega
    · by_cases hx0 : x = 0
      · subst hx0; simp only [loc_0]; rw [(h10 hx).2]
      · by_cases hx1 : x % 2 = 1
        · rw [hlodd x _ hx1, hlodd x _ hx1]
          have : x = 2 * (x / 2) + 1 := by omega
          rw [this] at hx
          simp only [(h8 _ hx).2]
        · rw [htodd x _ hx0 (by omega), htodd x _ hx0 (by omega)]
          have : x = 2 * (x / 2 - 1) + 2 := by omega
          rw [this] at hx
          obtain ⟨k1, k2⟩ := hno _ hx
          simp only [(h4 _ k1 k2).2]
  have hT1 : ∀ (v : AV) (L L' : List (Option LCell)) (g1 g1' : G), L.length = s.lh.length → L'.length = s'.lh.length →
      (∀ l, (footW cfg f ops o s).testBit (2 * l + 1) = true → L'[l]? = L[l]?) → (∀ l, (footW cfg f ops o s).testBit (2 * l + 1) = false → L[l]? = s.lh[l]? ∧ L'[l]? = s'.lh[l]?) →
      ((footW cfg f ops o s).testBit 0 = true → g1' = g1) → ((footW cfg f ops o s).testBit 0 = false → g1 = s.g ∧ g1' = s'.g) → _ := fun v =>
    hT (putT (disT s.tmps o.op.operands.toList (moves cfg f o)) o.dst v) (putT (disT s'.tmps o.op.operands.toList (moves cfg f o)) o.dst v) (by rw [hlenP, disT_length]) (by rw [hlenP, disT_length]) (hin v)
      (fun u h1 h2 => ⟨hout v u _ h1 h2, hout v u _ h1 h2⟩)
  unfold astep at hs ⊢
  rw [← hw]
  split at hs
  · rename_i hwt
    unfold aop at hs ⊢
    simp only at hs ⊢
    rw [hv]
    split at hs
    · rename_i hnd
      rw [if_pos hnd]
      split at hs
      · rename_i hcl
        split at hs
        · rename_i v hp
          simp only [Option.some.injEq, SR.next.injEq] at hs; subst hs
          have hnl : ∀ l, (footW cfg f ops o s).testBit (2 * l + 1) = false := fun l => by
            cases hx : (footW cfg f ops o s).testBit (2 * l + 1) with
            | false => rfl
            | true => rcases hWi _ hx with ⟨u, e, _⟩ | ⟨_, ⟨l', e, h⟩ | ⟨e, h⟩⟩ <;> first | omega | (rw [hcl] at h; cases h)
          have hng : (footW cfg f ops o s).testBit 0 = false := by
            cases hx : (footW cfg f ops o s).testBit 0 with
            | false => rfl
            | true => rcases hWi _ hx with ⟨u, e, _⟩ | ⟨_, ⟨l', e, h⟩ | ⟨e, h⟩⟩ <;> first | omega | (rw [hcl] at h; cases h)
          obtain ⟨k1, k2, k3⟩ := hT1 v s.lh s'.lh s.g s'.g rfl rfl (fun l hl => by rw [hnl l] at hl; cases hl) (fun l _ => ⟨rfl, rfl⟩) (fun h => by rw [hng] at h; cases h) (fun _ => ⟨rfl, rfl⟩)
          refine ⟨k1, k2, _, ?_, k3⟩
          rfl
        · cases hs
      · rename_i l wr hcl
        split at hs
        · rename_i c hc
          split at hs
          · rename_i v c' hp
            simp only [Option.some.injEq, SR.next.injEq] at hs; subst hs
            have hRl : (footR cfg f ops o s).testBit (2 * l + 1) = true := by unfold footR; simp [Nat.testBit_or, hwt, hcl, Nat.testBit_two_pow]
            have hc' : s'.lh[l]? = some c := by have := hR _ hRl; simp only [loc_l, LVal.l.injEq] at this; rw [← this]; exact hc
            have hng : (footW cfg f ops o s).testBit 0 = false := by
              cases hx : (footW cfg f ops o s).testBit 0 with
              | false => rfl
              | true => rcases hWi _ hx with ⟨u, e, _⟩ | ⟨_, ⟨l', e, h⟩ | ⟨e, h⟩⟩ <;> first | omega | (rw [hcl] at h; cases h)
            have hsame : wr = false → c' = c := fun hwr => by subst hwr; exact aloc_same hcl hp
            obtain ⟨k1, k2, k3⟩ := hT1 v (s.lh.set l c') (s'.lh.set l c') s.g s'.g (by simp) (by simp)
              (fun l' hl' => by
                rcases hWi _ hl' with ⟨u, e, _⟩ | ⟨_, ⟨l2, e, h⟩ | ⟨e, h⟩⟩
                · omega
                · rw [hcl] at h
                  simp only [Cls.loc.injEq] at h
                  obtain ⟨rfl, _⟩ := h
                  have : l' = l := by omega
                  subst this
                  rw [List.getElem?_set, List.getElem?_set, if_pos rfl, if_pos rfl, hl.2]
                · omega)
              (fun l' hl' => by
                by_cases e : l = l'
                · subst e
                  cases wr with
                  | true => rw [hWl l hwt hcl] at hl'; cases hl'
                  | false => rw [hsame rfl, set_self hc, set_self hc']; exact ⟨rfl, rfl⟩
                · rw [List.getElem?_set_ne e, List.getElem?_set_ne e]; exact ⟨rfl, rfl⟩)
              (fun h => by rw [hng] at h; cases h) (fun _ => ⟨rfl, rfl⟩)
            refine ⟨k1, k2, _, ?_, k3⟩
            simp only [hc', hp]
          · cases hs
        · cases hs
      · rename_i wr hcl
        have hRg : (footR cfg f ops o s).testBit 0 = true := by unfold footR; simp [Nat.testBit_or, hwt, hcl]
        have hg' : s'.g = s.g := by have := hR 0 hRg; simp only [loc_0, LVal.g.injEq] at this; exact this.symm
        split at hs
        · rename_i v g2 hp
          simp only [Option.some.injEq, SR.next.injEq] at hs; subst hs
          have hnl : ∀ l, (footW cfg f ops o s).testBit (2 * l + 1) = false := fun l => by
            cases hx : (footW cfg f ops o s).testBit (2 * l + 1) with
            | false => rfl
            | true => rcases hWi _ hx with ⟨u, e, _⟩ | ⟨_, ⟨l', e, h⟩ | ⟨e, h⟩⟩ <;> first | omega | (rw [hcl] at h; cases h)
          have hsame : wr = false → g2 = s.g := fun hwr => by subst hwr; exact aglob_same hcl hp
          obtain ⟨k1, k2, k3⟩ := hT1 v s.lh s'.lh g2 g2 rfl rfl (fun l hl => by rw [hnl l] at hl; cases hl) (fun l _ => ⟨rfl, rfl⟩) (fun _ => rfl) (fun h => by
            cases wr with
            | true => rw [hWg hwt hcl] at h; cases h
            | false => rw [hg']; exact ⟨hsame rfl, hsame rfl⟩)
          refine ⟨k1, k2, _, ?_, k3⟩
          simp only [hg', hp]
        · cases hs
        · cases hs
    · cases hs
  · rename_i hwf
    simp only [Option.some.injEq, SR.next.injEq] at hs; subst hs
    have hnl : ∀ l, (footW cfg f ops o s).testBit (2 * l + 1) = false := fun l => by
      cases hx : (footW cfg f ops o s).testBit (2 * l + 1) with
      | false => rfl
      | true => rcases hWi _ hx with ⟨u, e, _⟩ | ⟨h, _⟩ <;> first | omega | (rw [hwf] at h; cases h)
    have hng : (footW cfg f ops o s).testBit 0 = false := by
      cases hx : (footW cfg f ops o s).testBit 0 with
      | false => rfl
      | true => rcases hWi _ hx with ⟨u, e, _⟩ | ⟨h, _⟩ <;> first | omega | (rw [hwf] at h; cases h)
    obtain ⟨k1, k2, k3⟩ := hT (putT s.tmps o.dst (.val undef)) (putT s'.tmps o.dst (.val undef)) (hlenP _ _) (hlenP _ _) (hin0 _) (fun u h1 h2 => by rw [putT_get, putT_get, if_neg h1, if_neg h1]; exact ⟨rfl, rfl⟩)
      s.lh s'.lh s.g s'.g rfl rfl (fun l hl => by rw [hnl l] at hl; cases hl) (fun l _ => ⟨rfl, rfl⟩) (fun h => by rw [hng] at h; cases h) (fun _ => ⟨rfl, rfl⟩)
    exact ⟨k1, k2, _, rfl, k3⟩
  · cases hs
end
end Go.Eng
end

section
/-
  THE ENGINE, part 13: any order of a region comes to what the text's order comes to.
-/
set_option linter.unusedVariables false
set_option linter.unusedSimpArgs false
namespace Go.Eng

section
variable {P : Program} {cfg : FuncId → FCfg} {call : FuncId → List AV → RM → Heap → Option CRes}

/-- What a run in the text's order went through. -/
structure Trace (P : Program) (cfg : FuncId → FCfg) (call : FuncId → List AV → RM → Heap → Option CRes) (f : FuncId) (ops : Array Oper) (i n : Nat) (l : List Oper) (ancs : List Nat) (foot : List (Nat × Nat)) (σ : Nat → St) : Prop where
  step : ∀ m, i ≤ m → m < n → ∃ o R W anc, l[m - i]? = some o ∧ astep P cfg call f ops o (σ m) = some (.next (σ (m + 1))) ∧ foot[m]? = some (R, W) ∧ R = footR cfg f ops o (σ m) ∧ W = footW cfg f ops o (σ m) ∧
    ancs[m]? = some anc ∧ anc = ancBits (ancs.take m) o.after.toList ∧ edgesDown m o.after.toList = true ∧ apartFrom anc R W 0 (foot.take m) = true

theorem adraw_trace {f : FuncId} {ops : Array Oper} : ∀ (l : List Oper) (i : Nat) (ancs : List Nat) (foot : List (Nat × Nat)) (s s' : St), adraw P cfg call f ops l i ancs foot s = some s' → ancs.length = i → foot.length = i →
    ∃ ancsF footF σ, ancsF.take i = ancs ∧ footF.take i = foot ∧ ancsF.length = i + l.length ∧ footF.length = i + l.length ∧ σ i = s ∧ σ (i + l.length) = s' ∧ Trace P cfg call f ops i (i + l.length) l ancsF footF σ := by
  intro l
  induction l with
  | nil =>
    intro i ancs foot s s' h h1 h2
    simp only [adraw, Option.some.injEq] at h
    subst h
    exact ⟨ancs, foot, fun _ => s, by simp [← h1], by simp [← h2], by simp [h1], by simp [h2], rfl, rfl, ⟨fun m hm hm2 => by simp at hm2; omega⟩⟩
  | cons o r ih =>
    intro i ancs foot s s' h h1 h2
    simp only [adraw] at h
    split at h
    · rename_i hc
      split at h
      · rename_i s1 hs
        obtain ⟨A, F, σ, a1, a2, a3, a4, a5, a6, a7⟩ := ih (i + 1) _ _ s1 s' h (by simp [h1]) (by simp [h2])
        have eA : A.take i = ancs := by
          have := congrArg (List.take i) a1
          rw [List.take_take, Nat.min_eq_left (by omega), List.take_append_of_le_length (by omega), List.take_of_length_le (l := ancs) (by omega)] at this
          exact this
        have eF : F.take i = foot := by
          have := congrArg (List.take i) a2
          rw [List.take_take, Nat.min_eq_left (by omega), List.take_append_of_le_length (by omega), List.take_of_length_le (l := foot) (by omega)] at this
          exact this
        have gA : A[i]? = some (ancBits ancs o.after.toList) := by
          have := congrArg (fun l => l[i]?) a1
          simp only [List.getElem?_take, if_pos (Nat.lt_succ_self i)] at this
          rw [this, List.getElem?_append_right (by omega)]; simp [h1]
        have gF : F[i]? = some (footR cfg f ops o s, footW cfg f ops o s) := by
          have := congrArg (fun l => l[i]?) a2
          simp only [List.getElem?_take, if_pos (Nat.lt_succ_self i)] at this
          rw [this, List.getElem?_append_right (by omega)]; simp [h2]
        refine ⟨A, F, fun j => if j = i then s else σ j, eA, eF, by simp [a3]; omega, by simp [a4]; omega, by simp, ?_, ⟨fun m hm hm2 => ?_⟩⟩
        · show (if i + (o :: r).length = i then s else σ (i + (o :: r).length)) = s'
          rw [if_neg (by simp)]
          rw [show i + (o :: r).length = i + 1 + r.length by simp; omega]; exact a6
        · by_cases e : m = i
          · subst e
            refine ⟨o, _, _, _, by simp, ?_, gF, by simp, by simp, gA, by rw [eA], hc.1, ?_⟩
            · simp [a5]; exact hs
            · rw [eF]; exact hc.2
          · obtain ⟨o', R, W, anc, b1, b2, b3, b4, b5, b6, b7, b8, b9⟩ := a7.step m (by omega) (by simp at hm2; omega)
            refine ⟨o', R, W, anc, ?_, ?_, b3, ?_, ?_, b6, b7, b8, b9⟩
            · have : m - i = (m - (i + 1)) + 1 := by omega
              rw [this]; simpa using b1
            · rw [if_neg e, if_neg (by omega)]; exact b2
            · rw [if_neg e]; exact b4
            · rw [if_neg e]; exact b5
      · cases h
    · cases h

theorem apartFrom_spec {anc R W : Nat} : ∀ {l : List (Nat × Nat)} {j k : Nat} {r w : Nat}, apartFrom anc R W j l = true → l[k]? = some (r, w) →
    anc.testBit (j + k) = true ∨ ∀ x, ¬ (w.testBit x = true ∧ (R.testBit x = true ∨ W.testBit x = true)) ∧ ¬ (r.testBit x = true ∧ W.testBit x = true) := by
  intro l
  induction l with
  | nil => intro j k r w _ h; simp at h
  | cons p l ih =>
    intro j k r w h hk
    obtain ⟨r0, w0⟩ := p
    simp only [apartFrom, Bool.and_eq_true, Bool.or_eq_true, beq_iff_eq] at h
    cases k with
    | zero =>
      simp only [List.getElem?_cons_zero, Option.some.injEq, Prod.mk.injEq] at hk
      obtain ⟨rfl, rfl⟩ := hk
      rcases h.1 with h1 | h1
      · exact .inl h1
      · right
        intro x
        have := congrArg (fun n => Nat.testBit n x) h1
        simp only [Nat.testBit_or, Nat.testBit_and, Nat.zero_testBit, Bool.or_eq_false_iff, Bool.and_eq_false_imp] at this
        refine ⟨fun ⟨q1, q2⟩ => ?_, fun ⟨q1, q2⟩ => ?_⟩
        · have := this.1 q1
          rcases q2 with q2 | q2 <;> simp_all
        · have := this.2 q1; simp_all
    | succ k =>
      rcases ih h.2 (by simpa using hk) with h1 | h1
      · left; rwa [show j + (k + 1) = j + 1 + k by omega]
      · exact .inr h1

theorem ancBits_spec {ancs : List Nat} {j : Nat} : ∀ {es : List Edge}, (ancBits ancs es).testBit j = true → ∃ e ∈ es, Region.binds .any e = true ∧ (e.on = j ∨ (ancs.getD e.on 0).testBit j = true) := by
  intro es
  induction es with
  | nil => intro h; simp [ancBits] at h
  | cons e es ih =>
    intro h
    simp only [ancBits, Nat.testBit_or, Bool.or_eq_true] at h
    rcases h with h | h
    · split at h
      · rename_i hb
        simp only [Nat.testBit_or, Nat.testBit_two_pow, Bool.or_eq_true, decide_eq_true_eq] at h
        exact ⟨e, by simp, hb, h⟩
      · simp at h
    · obtain ⟨e', h1, h2⟩ := ih h
      exact ⟨e', by simp [h1], h2⟩

theorem edgesDown_spec {i : Nat} : ∀ {es : List Edge}, edgesDown i es = true → ∀ e ∈ es, Region.binds .any e = true → e.on < i := by
  intro es
  induction es with
  | nil => intro _ e he; simp at he
  | cons e es ih =>
    intro h e' he hb
    simp only [edgesDown, Bool.and_eq_true, Bool.or_eq_true, Bool.not_eq_true', decide_eq_true_eq] at h
    simp only [List.mem_cons] at he
    rcases he with rfl | he
    · rcases h.1 with h1 | h1
      · rw [hb] at h1; cases h1
      · exact h1
    · exact ih h.2 e' he hb

/-- A state after some of the operations: each place as the last of them that writes it left it. -/
structure Part (n : Nat) (σ : Nat → St) (W : Nat → Nat) (anc : Nat → Nat) (S : Nat → Prop) (u : St) : Prop where
  len : SameLen (σ 0) u
  places : ∀ x, ∃ j, j ≤ n ∧ (j = 0 ∨ (S (j - 1) ∧ (W (j - 1)).testBit x = true ∧ 0 < j)) ∧ loc u x = loc (σ j) x ∧ ∀ m, S m → m < n → (W m).testBit x = true → m < j
  closed : ∀ m, S m → m < n → ∀ j, j < n → (anc m).testBit j = true → S j

theorem order_sound {f : FuncId} {ops : Array Oper} {s s' : St} (h : adraw P cfg call f ops ops.toList 0 [] [] s = some s') (t : Nat) :
    aops P cfg call f ops (Region.linearise .any ops t) s = some (.normal, s') := by
  obtain ⟨A, F, σ, _, _, hA, hF, h0, hn, tr⟩ := adraw_trace ops.toList 0 [] [] s s' h rfl rfl
  simp only [Nat.zero_add] at hA hF hn tr
  have hsz : ops.toList.length = ops.size := by simp
  rw [hsz] at hA hF hn tr
  let W : Nat → Nat := fun m => (F.getD m (0, 0)).2
  let R : Nat → Nat := fun m => (F.getD m (0, 0)).1
  let anc : Nat → Nat := fun m => A.getD m 0
  have st : ∀ m, m < ops.size → ∃ o, ops[m]? = some o ∧ astep P cfg call f ops o (σ m) = some (.next (σ (m + 1))) ∧ R m = footR cfg f ops o (σ m) ∧ W m = footW cfg f ops o (σ m) ∧
      (∀ j, (anc m).testBit j = true → ∃ e ∈ o.after.toList, Region.binds .any e = true ∧ (e.on = j ∨ (anc e.on).testBit j = true)) ∧ (∀ e ∈ o.after.toList, Region.binds .any e = true → e.on < m) ∧
      ∀ j, j < m → (anc m).testBit j = true ∨ ∀ x, ¬ ((W j).testBit x = true ∧ ((R m).testBit x = true ∨ (W m).testBit x = true)) ∧ ¬ ((R j).testBit x = true ∧ (W m).testBit x = true) := by
    intro m hm
    obtain ⟨o, r, wv, an, b1, b2, b3, b4, b5, b6, b7, b8, b9⟩ := tr.step m (Nat.zero_le _) hm
    have eW : W m = wv := by simp [W, List.getD_eq_getElem?_getD, b3]
    have eR : R m = r := by simp [R, List.getD_eq_getElem?_getD, b3]
    have eA : anc m = an := by simp [anc, List.getD_eq_getElem?_getD, b6]
    refine ⟨o, by simpa using b1, b2, by rw [eR, b4], by rw [eW, b5], fun j hj => ?_, edgesDown_spec b8, fun j hj => ?_⟩
    · rw [eA, b7] at hj
      obtain ⟨e, h1, h2, h3⟩ := ancBits_spec hj
      refine ⟨e, h1, h2, h3.imp id fun h4 => ?_⟩
      have hlt := edgesDown_spec b8 e h1 h2
      simp only [anc]
      rw [List.getD_eq_getElem?_getD] at h4 ⊢
      rwa [List.getElem?_take, if_pos hlt] at h4
    · have hjF : F[j]? = some (R j, W j) := by
        have : j < F.length := by omega
        simp [R, W, List.getD_eq_getElem?_getD, List.getElem?_eq_getElem this]
      have := apartFrom_spec (k := j) (r := R j) (w := W j) b9 (by rw [List.getElem?_take, if_pos hj]; exact hjF)
      rw [eA, eR, eW]; simpa using this
  have hlen : ∀ m, m ≤ ops.size → SameLen (σ 0) (σ m) := by
    intro m
    induction m with
    | zero => intro _; exact ⟨rfl, rfl⟩
    | succ m ih =>
      intro hm
      obtain ⟨o, b1, b2, _⟩ := st m (by omega)
      obtain ⟨_, _, k3, _⟩ := step_local (s' := σ m) ⟨rfl, rfl⟩ b2 (fun _ _ => rfl)
      have := ih (by omega)
      exact ⟨this.1.trans k3.1, this.2.trans k3.2⟩
  have hkeep : ∀ m, m < ops.size → ∀ x, (W m).testBit x = false → loc (σ (m + 1)) x = loc (σ m) x := by
    intro m hm x hx
    obtain ⟨o, b1, b2, b3, b4, _⟩ := st m hm
    obtain ⟨_, _, _, k4, _⟩ := step_local (s' := σ m) ⟨rfl, rfl⟩ b2 (fun _ _ => rfl)
    exact k4 x (by rw [← b4]; exact hx)
  -- from the last writer on nothing turns
  have hrun : ∀ x j i, j ≤ i → i ≤ ops.size → (∀ m, j ≤ m → m < i → (W m).testBit x = false) → loc (σ i) x = loc (σ j) x := by
    intro x j i hji hi hno
    induction i with
    | zero => have : j = 0 := by omega
              subst this; rfl
    | succ i ih =>
      by_cases e : j = i + 1
      · subst e; rfl
      · rw [hkeep i (by omega) x (hno i (by omega) (by omega))]
        exact ih (by omega) (by omega) fun m h1 h2 => hno m h1 (by omega)
  -- one operation more
  have hone : ∀ (S : Nat → Prop) u i, Part ops.size σ W anc S u → i < ops.size → ¬ S i → (∀ o, ops[i]? = some o → ∀ e ∈ o.after.toList, Region.binds .any e = true → S e.on) →
      ∃ o u', ops[i]? = some o ∧ astep P cfg call f ops o u = some (.next u') ∧ Part ops.size σ W anc (fun m => S m ∨ m = i) u' := by
    intro S u i hp hi hSi hed
    obtain ⟨o, b1, b2, b3, b4, b5, b6, b7⟩ := st i hi
    have hanc : ∀ j, j < ops.size → (anc i).testBit j = true → S j := by
      intro j hj hb
      obtain ⟨e, h1, h2, h3⟩ := b5 j hb
      have hSe := hed o b1 e h1 h2
      rcases h3 with rfl | h3
      · exact hSe
      · exact hp.closed e.on hSe (by have := b6 e h1 h2; omega) j hj h3
    have hfor : ∀ x, ((R i).testBit x = true ∨ (W i).testBit x = true) → ∀ m, S m → m < ops.size → (W m).testBit x = true → m < i := by
      intro x hx m hm hmn hw
      rcases Nat.lt_trichotomy m i with h1 | h1 | h1
      · exact h1
      · subst h1; exact absurd hm hSi
      · obtain ⟨om, c1, c2, c3, c4, c5, c6, c7⟩ := st m hmn
        rcases c7 i h1 with h2 | h2
        · exact absurd (hp.closed m hm hmn i hi h2) hSi
        · rcases hx with hx | hx
          · exact absurd ⟨hx, hw⟩ (h2 x).2
          · exact absurd ⟨hx, .inr hw⟩ (h2 x).1
    have hback : ∀ x, (R i).testBit x = true → ∀ m, m < i → (W m).testBit x = true → S m := by
      intro x hx m hm hw
      rcases b7 m hm with h2 | h2
      · exact hanc m (by omega) h2
      · exact absurd ⟨hw, .inl hx⟩ (h2 x).1
    have hl : SameLen (σ i) u := ⟨(hlen i (by omega)).1.symm.trans hp.len.1, (hlen i (by omega)).2.symm.trans hp.len.2⟩
    obtain ⟨k1, k2, k3, k4, u', k5, k6, k7, k8⟩ := step_local hl b2 (s' := u) (fun x hx => by
      rw [← b3] at hx
      obtain ⟨j, j1, j2, j3, j4⟩ := hp.places x
      rw [j3]
      have hji : j ≤ i := by
        rcases j2 with j2 | ⟨j2, j5, j6⟩
        · omega
        · have := hfor x (.inl hx) (j - 1) j2 (by omega) j5; omega
      exact hrun x j i hji (by omega) fun m h1 h2 => by
        cases hw : (W m).testBit x with
        | false => rfl
        | true => have := j4 m (hback x hx m h2 hw) (by omega) hw; omega)
    refine ⟨o, u', b1, k5, ⟨hp.len.1.trans k6.1, hp.len.2.trans k6.2⟩, fun x => ?_, ?_⟩
    · cases hx : (W i).testBit x with
      | true =>
        refine ⟨i + 1, by omega, .inr ⟨.inr (by omega), by simpa using hx, by omega⟩, k7 x (by rw [← b4]; exact hx), fun m hm hmn hw => ?_⟩
        rcases hm with hm | hm
        · have := hfor x (.inr hx) m hm hmn hw; omega
        · omega
      | false =>
        obtain ⟨j, j1, j2, j3, j4⟩ := hp.places x
        refine ⟨j, j1, j2.imp id fun ⟨a, b, c⟩ => ⟨.inl a, b, c⟩, by rw [k8 x (by rw [← b4]; exact hx)]; exact j3, fun m hm hmn hw => ?_⟩
        rcases hm with hm | hm
        · exact j4 m hm hmn hw
        · subst hm; rw [hx] at hw; cases hw
    · intro m hm hmn j hj hb
      rcases hm with hm | hm
      · exact .inl (hp.closed m hm hmn j hj hb)
      · subst hm; exact .inl (hanc j hj hb)
  -- all of them
  have hend : ∀ (S : Nat → Prop) u, Part ops.size σ W anc S u → (∀ m, m < ops.size → S m) → u = s' := by
    intro S u hp hall
    rw [← hn]
    refine loc_ext fun x => ?_
    obtain ⟨j, j1, j2, j3, j4⟩ := hp.places x
    rw [j3]
    symm
    exact hrun x j ops.size j1 (Nat.le_refl _) fun m h1 h2 => by
      cases hw : (W m).testBit x with
      | false => rfl
      | true => have := j4 m (hall m h2) h2 hw; omega
  have hgo : ∀ (fuel t : Nat) (listed : Array Bool) (u : St), listed.size = ops.size → Part ops.size σ W anc (fun m => listed.getD m false = true) u →
      (∃ L : List Nat, L.length ≤ fuel ∧ ∀ j, j < ops.size → listed.getD j false = false → j ∈ L) →
      aops P cfg call f ops (Region.linearise.go .any ops fuel t listed []) u = some (.normal, s') := by
    intro fuel
    induction fuel with
    | zero =>
      intro t listed u hsz hp ⟨L, hL, hL2⟩
      have : L = [] := by simpa using hL
      subst this
      have := hend _ u hp fun m hm => by
        cases hc : listed.getD m false with
        | true => rfl
        | false => have := hL2 m hm hc; simp at this
      simp only [Region.linearise.go, List.reverse_nil, aops, this]
    | succ fuel ih =>
      intro t listed u hsz hp ⟨L, hL, hL2⟩
      simp only [Region.linearise.go]
      change aops P cfg call f ops (match (Region.ready .any ops listed)[t % (Region.ready .any ops listed).length]? with
        | some i => Region.linearise.go .any ops fuel (t / (Region.ready .any ops listed).length) (listed.setIfInBounds i true) [i]
        | none => [].reverse) u = _
      cases hi : (Region.ready .any ops listed)[t % (Region.ready .any ops listed).length]? with
      | none =>
        have hnil : Region.ready .any ops listed = [] := by
          cases hr : Region.ready .any ops listed with
          | nil => rfl
          | cons x xs =>
            rw [hr] at hi
            have hlt : t % (x :: xs).length < (x :: xs).length := Nat.mod_lt _ (by simp)
            simp at hi
            simp at hlt
            omega
        have hall : ∀ m, m < ops.size → listed.getD m false = true := by
          intro m
          induction m using Nat.strongRecOn with
          | _ m ihm =>
            intro hm
            cases hc : listed.getD m false with
            | true => rfl
            | false =>
              obtain ⟨o, b1, b2, b3, b4, b5, b6, b7⟩ := st m hm
              have : m ∈ Region.ready .any ops listed := by
                simp only [Region.ready, List.mem_filter, List.mem_range]
                refine ⟨hm, ?_⟩
                simp only [b1, Option.map_some, Option.getD_some, Bool.and_eq_true, Bool.not_eq_true']
                refine ⟨?_, ?_⟩
                · have hml : m < listed.size := by rw [hsz]; exact hm
                  simp [Array.getD, hml] at hc ⊢; exact hc
                · rw [Array.all_eq_true_iff_forall_mem]
                  intro e he
                  cases hb : Region.binds .any e with
                  | false => simp
                  | true =>
                    have he' : e ∈ o.after.toList := by simpa using he
                    have h1 := b6 e he' hb
                    have := ihm e.on h1 (by omega)
                    simp [this]
              rw [hnil] at this; simp at this
        have := hend _ u hp hall
        simp only [List.reverse_nil, aops, this]
      | some i =>
        simp only []
        rw [linearise_go_acc, List.reverse_singleton, List.singleton_append]
        have hmem := List.mem_of_getElem? hi
        simp only [Region.ready, List.mem_filter, List.mem_range] at hmem
        obtain ⟨hilt, hrest⟩ := hmem
        obtain ⟨o, b1, b2, b3, b4, b5, b6, b7⟩ := st i hilt
        simp only [b1, Option.map_some, Option.getD_some, Bool.and_eq_true, Bool.not_eq_true'] at hrest
        obtain ⟨hr1, hr2⟩ := hrest
        have hil : i < listed.size := by rw [hsz]; exact hilt
        have hif : listed.getD i false = false := by simp [Array.getD, hil] at hr1 ⊢; exact hr1
        obtain ⟨o2, u', c1, c2, c3⟩ := hone _ u i hp hilt (by rw [hif]; simp) (fun o' ho' e he hb => by
          rw [b1] at ho'; cases ho'
          rw [Array.all_eq_true_iff_forall_mem] at hr2
          have := hr2 e (by simpa using he)
          rw [hb] at this; simpa using this)
        have hset : ∀ m, (listed.setIfInBounds i true).getD m false = true ↔ (listed.getD m false = true ∨ m = i) := by
          intro m
          rw [Array.getD_eq_getD_getElem?, Array.getD_eq_getD_getElem?, Array.getElem?_setIfInBounds]
          by_cases e : i = m
          · subst e; simp [hil]
          · have e' : ¬ m = i := fun h => e h.symm
            simp [e, e']
        simp only [aops, c1, c2]
        refine ih _ _ u' (by simp [hsz]) ?_ ⟨L.erase i, ?_, fun j hj hjf => ?_⟩
        · obtain ⟨d1, d2, d3⟩ := c3
          refine ⟨d1, fun x => ?_, fun m hm hmn j hj hb => ?_⟩
          · obtain ⟨j, j1, j2, j3, j4⟩ := d2 x
            exact ⟨j, j1, j2.imp id fun ⟨a, b, c⟩ => ⟨(hset _).2 a, b, c⟩, j3, fun m hm => j4 m ((hset m).1 hm)⟩
          · exact (hset j).2 (d3 m ((hset m).1 hm) hmn j hj hb)
        · rw [List.length_erase_of_mem (hL2 i hilt hif)]; omega
        · have hne : j ≠ i := by rintro rfl; have := (hset j).2 (.inr rfl); rw [this] at hjf; cases hjf
          have hjf' : listed.getD j false = false := by
            cases hc : listed.getD j false with
            | false => rfl
            | true => have := (hset j).2 (.inl hc); rw [this] at hjf; cases hjf
          exact (List.mem_erase_of_ne hne).2 (hL2 j hj hjf')
  unfold Region.linearise
  refine hgo ops.size t _ s (by simp) ?_ ⟨List.range ops.size, by simp, fun j hj _ => by simpa using hj⟩
  have hno : ∀ m, (Array.replicate ops.size false).getD m false = false := by
    intro m
    rw [Array.getD_eq_getD_getElem?, Array.getElem?_replicate]
    split <;> rfl
  refine ⟨by rw [h0]; exact ⟨rfl, rfl⟩, fun x => ⟨0, Nat.zero_le _, .inl rfl, by rw [h0], fun m hm => by rw [hno m] at hm; cases hm⟩, fun m hm => by rw [hno m] at hm; cases hm⟩
end
end Go.Eng
end

section
/-
  THE ENGINE, part 14: code.
-/
set_option linter.unusedVariables false
set_option linter.unusedSimpArgs false
namespace Go.Eng

theorem lowss_flatten (n : Nat) : ∀ l : List (List AV), lowss n l = true → lows n l.flatten = true := by
  have app : ∀ a b : List AV, lows n a = true → lows n b = true → lows n (a ++ b) = true := by
    intro a
    induction a with
    | nil => intro b _ h; exact h
    | cons x a ih =>
      intro b h1 h2
      simp only [lows, Bool.and_eq_true, List.cons_append] at h1 ⊢
      exact ⟨h1.1, ih b h1.2 h2⟩
  intro l
  induction l with
  | nil => intro _; simp [lows]
  | cons x l ih =>
    intro h
    simp only [lowss, Bool.and_eq_true] at h
    rw [List.flatten_cons]
    exact app _ _ h.1 (ih h.2)

theorem RepL.take_mu {I : Mem} {μ : List Nat} {n : Nat} {vs : List Value} {as : List AV} (h : RepL I μ vs as) (hl : lows n as = true) : RepL I (μ.take n) vs as := by
  induction h with
  | nil => exact .nil
  | any v _ ih => simp only [lows, Bool.and_eq_true] at hl; exact .any v (ih hl.2)
  | val v _ ih => simp only [lows, Bool.and_eq_true] at hl; exact .val v (ih hl.2)
  | slice0 sz own _ ih => simp only [lows, Bool.and_eq_true] at hl; exact .slice0 sz own (ih hl.2)
  | slice b o cap sz ws rows own hr _ h1 h2 h3 _ ih1 ih2 =>
    simp only [lows, AV.low, Bool.and_eq_true] at hl
    exact .slice b o cap sz ws rows own hr (ih1 (lowss_flatten n rows hl.1)) h1 h2 h3 (ih2 hl.2)
  | slice1 a cap sz own ho _ ih => simp only [lows, Bool.and_eq_true] at hl; exact .slice1 a cap sz own ho (ih hl.2)
  | ref b o ws cs hr _ _ ih1 ih2 => simp only [lows, AV.low, Bool.and_eq_true] at hl; exact .ref b o ws cs hr (ih1 hl.1) (ih2 hl.2)
  | ptr id off b hb _ ih =>
    simp only [lows, AV.low, Bool.and_eq_true, Nat.blt_eq] at hl
    exact .ptr id off b (by rw [List.getElem?_take, if_pos hl.1]; exact hb) (ih hl.2)
  | func fn f c af ac _ _ _ ih1 ih2 ih3 => simp only [lows, AV.low, Bool.and_eq_true] at hl; exact .func fn f c af ac (ih1 hl.1.1) (ih2 hl.1.2) (ih3 hl.2)
  | iface t v a _ _ ih1 ih2 => simp only [lows, AV.low, Bool.and_eq_true] at hl; exact .iface t v a (ih1 (by simp only [lows, Bool.and_true]; exact hl.1)) (ih2 hl.2)
  | agg cs acs ho _ _ ih1 ih2 => simp only [lows, AV.low, Bool.and_eq_true] at hl; exact .agg cs acs ho (ih1 hl.1) (ih2 hl.2)
  | tuple ws aws _ _ ih1 ih2 => simp only [lows, AV.low, Bool.and_eq_true] at hl; exact .tuple ws aws (ih1 hl.1) (ih2 hl.2)

theorem count_take (b : Nat) : ∀ (l : List Nat) (n : Nat), (l.take n).count b ≤ l.count b := fun l n => (List.take_sublist n l).count_le b

theorem zsum_take {α β : Type} (f : α → β → Nat) : ∀ (n : Nat) (l : List α) (m : List β), zsum f (l.take n) (m.take n) ≤ zsum f l m
  | 0, l, m => by simp [zsum]
  | n + 1, [], m => by simp [zsum]
  | n + 1, a :: l, [] => by simp [zsum]
  | n + 1, a :: l, b :: m => by
    have := zsum_take f n l m
    simp only [List.take_succ_cons, zsum]; omega

theorem lowss_get {n : Nat} : ∀ {H : Heap} {i : Nat} {cs : List AV}, lowss n H = true → H[i]? = some cs → lows n cs = true := by
  intro H
  induction H with
  | nil => intro i cs _ h; simp at h
  | cons a H ih =>
    intro i cs h hi
    simp only [lowss, Bool.and_eq_true] at h
    cases i with
    | zero => simp only [List.getElem?_cons_zero, Option.some.injEq] at hi; subst hi; exact h.1
    | succ i => simp only [List.getElem?_cons_succ] at hi; exact ih h.2 hi

theorem HInv.take {J : Mem} {ν : List Nat} {HV : List (List Value)} {w : World} {H : Heap} {n : Nat} (h : HInv J ν HV w H) (hl : lowss n (H.take n) = true) : HInv J (ν.take n) (HV.take n) w (H.take n) := by
  refine ⟨h.imm, by simp [h.l1], by simp [h.l2], ?_⟩
  intro id b ws cs h1 h2 h3
  have hlow := lowss_get hl h3
  rw [List.getElem?_take] at h1 h2 h3
  split at h1
  · rename_i hlt
    rw [if_pos hlt] at h2 h3
    obtain ⟨a1, a2, a3, a4, a5⟩ := h.ok id b ws cs h1 h2 h3
    exact ⟨a1, a2.take_mu hlow, a3, a4, a5⟩
  · cases h1

theorem TRep.take_mu {I : Mem} {μ : List Nat} {lh : List (Option LCell)} {lv : List LV} {n : Nat} {v : Value} {a : AV} (h : TRep I μ lh lv v a) (hl : a.low n = true) : TRep I (μ.take n) lh lv v a := by
  have key : ∀ {a : AV}, a.low n = true → Rep I μ v a → Rep I (μ.take n) v a := fun {a} hl h => h.take_mu (by simp only [lows, Bool.and_true]; exact hl)
  cases a <;> first | exact h | exact key hl h

theorem lows_get {n : Nat} : ∀ {l : List AV} {i : Nat} {a : AV}, lows n l = true → l[i]? = some a → a.low n = true := by
  intro l
  induction l with
  | nil => intro i a _ h; simp at h
  | cons b l ih =>
    intro i a h hi
    simp only [lows, Bool.and_eq_true] at h
    cases i with
    | zero => simp only [List.getElem?_cons_zero, Option.some.injEq] at hi; subst hi; exact h.1
    | succ i => simp only [List.getElem?_cons_succ] at hi; exact ih h.2 hi

theorem lowL_get {n : Nat} : ∀ {l : List (Option LCell)} {i g : Nat} {cs : List AV}, lowL n l = true → l[i]? = some (some (g, cs)) → lows n cs = true := by
  intro l
  induction l with
  | nil => intro i g cs _ h; simp at h
  | cons b l ih =>
    intro i g cs h hi
    cases i with
    | zero =>
      simp only [List.getElem?_cons_zero, Option.some.injEq] at hi; subst hi
      simp only [lowL, Bool.and_eq_true] at h; exact h.1
    | succ i =>
      simp only [List.getElem?_cons_succ] at hi
      cases b with
      | none => simp only [lowL] at h; exact ih h hi
      | some c => obtain ⟨g', cs'⟩ := c; simp only [lowL, Bool.and_eq_true] at h; exact ih h.2 hi

theorem DRel.take_mu {I : Mem} {μ : List Nat} {n : Nat} : ∀ {ds : List Deferred} {as : List ADef}, DRel I μ ds as → lowD n as = true → DRel I (μ.take n) ds as
  | [], [], h, _ => h
  | d :: ds, a :: as, h, hl => by
    simp only [lowD, Bool.and_eq_true] at hl
    obtain ⟨cap, h1, h2, h3⟩ := h.1
    exact ⟨⟨cap, h1, h2.take_mu hl.1, h3⟩, DRel.take_mu h.2 hl.2⟩
  | [], _ :: _, h, _ => h.elim
  | _ :: _, [], h, _ => h.elim

theorem RmOk.take_mu {I : Mem} {μ : List Nat} {n : Nat} {cs0 cs : List Frame} {rm : RM} (h : RmOk I μ cs0 cs rm) (hl : lowRM n rm = true) : RmOk I (μ.take n) cs0 cs rm := by
  cases rm with
  | none => exact h
  | returning => obtain ⟨c, r, u, h1, h2, h3⟩ := h; exact ⟨c, r, u, h1, h2, h3⟩
  | panicking v b =>
    obtain ⟨c, r, u, h1, h2, x, o, h3, h4, h5⟩ := h
    exact ⟨c, r, u, h1, h2, x, o, h3, h4, h5.take_mu (by simp only [lows, Bool.and_true]; exact hl)⟩

section
variable {P : Program} {cfg : FuncId → FCfg} {call : FuncId → List AV → RM → Heap → Option CRes} {B : Base} {I J : Mem} {μ ν : List Nat}

theorem maskTmps_get (m : Nat) : ∀ (l : List AV) (i j : Nat), (maskTmps m i l)[j]? = (l[j]?).map fun v => if m.testBit (i + j) then v else .any
  | [], i, j => by simp [maskTmps]
  | v :: r, i, 0 => by simp [maskTmps]
  | v :: r, i, j + 1 => by
    simp only [maskTmps, List.getElem?_cons_succ]
    rw [maskTmps_get m r (i + 1) j, show i + 1 + j = i + (j + 1) by omega]

theorem maskTmps_length (m : Nat) : ∀ (l : List AV) (i : Nat), (maskTmps m i l).length = l.length
  | [], i => rfl
  | v :: r, i => by simp [maskTmps, maskTmps_length m r]

theorem maskLh_get (m : Nat) : ∀ (l : List (Option LCell)) (i j : Nat), (maskLh m i l)[j]? = (l[j]?).map fun v => if m.testBit (i + j) then v else none
  | [], i, j => by simp [maskLh]
  | v :: r, i, 0 => by simp [maskLh]
  | v :: r, i, j + 1 => by
    simp only [maskLh, List.getElem?_cons_succ]
    rw [maskLh_get m r (i + 1) j, show i + 1 + j = i + (j + 1) by omega]

theorem maskLh_length (m : Nat) : ∀ (l : List (Option LCell)) (i : Nat), (maskLh m i l).length = l.length
  | [], i => rfl
  | v :: r, i => by simp [maskLh, maskLh_length m r]

def maskLv (m : Nat) : Nat → List LV → List LV
  | _, [] => []
  | i, c :: r => (if m.testBit i then c else none) :: maskLv m (i + 1) r

theorem maskLv_get (m : Nat) : ∀ (l : List LV) (i j : Nat), (maskLv m i l)[j]? = (l[j]?).map fun v => if m.testBit (i + j) then v else none
  | [], i, j => by simp [maskLv]
  | v :: r, i, 0 => by simp [maskLv]
  | v :: r, i, j + 1 => by
    simp only [maskLv, List.getElem?_cons_succ]
    rw [maskLv_get m r (i + 1) j, show i + 1 + j = i + (j + 1) by omega]

theorem maskLv_length (m : Nat) : ∀ (l : List LV) (i : Nat), (maskLv m i l).length = l.length
  | [], i => rfl
  | v :: r, i => by simp [maskLv, maskLv_length m r]

theorem tcs_mask_le (m b : Nat) : ∀ (vs : List Value) (tm : List AV) (i : Nat), tcs b vs (maskTmps m i tm) ≤ tcs b vs tm
  | [], _, _ => by simp [zsum]
  | v :: vs, [], _ => by simp [maskTmps, zsum]
  | v :: vs, a :: tm, i => by
    have := tcs_mask_le m b vs tm (i + 1)
    simp only [maskTmps, zsum, tcs] at *
    have h2 : tc b v (if m.testBit i = true then a else .any) ≤ tc b v a := by
      split
      · exact Nat.le_refl _
      · have : tc b v .any = 0 := by unfold tc; split <;> simp_all
        omega
    omega

theorem lc_mask_le (m b : Nat) : ∀ (lv : List LV) (lh : List (Option LCell)) (i : Nat), zsum (lc b) (maskLv m i lv) (maskLh m i lh) ≤ zsum (lc b) lv lh
  | [], _, _ => by simp [maskLv, zsum]
  | v :: vs, [], _ => by simp [maskLh, maskLv, zsum]
  | v :: vs, a :: tm, i => by
    have := lc_mask_le m b vs tm (i + 1)
    simp only [maskLv, maskLh, zsum] at *
    have h2 : lc b (if m.testBit i = true then v else none) (if m.testBit i = true then a else none) ≤ lc b v a := by
      split
      · exact Nat.le_refl _
      · exact Nat.zero_le _
    omega

theorem mask_sound0 {s : St} {a : Act} {cs : List Frame} {w : World} {HV : List (List Value)} {lv : List LV} (h : Good B s a cs w I μ HV lv) {m : Nat} (hall : (maskTmps m 0 s.tmps).all (lpIn m) = true) :
    ∃ lv', Good B { s with tmps := maskTmps m 0 s.tmps, lh := maskLh m 0 s.lh } a cs w I μ HV lv' := by
  refine ⟨maskLv m 0 lv, ⟨⟨h.inv.h, ⟨by rw [maskTmps_length]; exact h.inv.tms.1, ?_⟩, ?_, by rw [maskLv_length, maskLh_length]; exact h.inv.ll, ?_, ?_⟩, h.df, h.rm, h.dk, h.eff, ?_, h.mu, h.bs⟩⟩
  · intro i v x hv hx
    have hx0 := hx
    rw [maskTmps_get] at hx
    cases hy : s.tmps[i]? with
    | none => simp [hy] at hx
    | some y =>
      simp only [hy, Option.map_some, Option.some.injEq] at hx
      by_cases hb : m.testBit (0 + i) = true
      · rw [if_pos hb] at hx; subst hx
        have h1 := h.inv.tms.2 i v y hv hy
        cases y with
        | lp t g off =>
          obtain ⟨g', cs1, b1, ws1, e1, e2, e3, e4⟩ := h1
          have hl := List.all_eq_true.1 hall _ (List.mem_of_getElem? hx0)
          simp only [lpIn] at hl
          exact ⟨g', cs1, b1, ws1, by rw [maskLh_get, e1]; simp [hl], by rw [maskLv_get, e2]; simp [hl], e3, e4⟩
        | _ => exact h1
      · rw [if_neg hb] at hx; subst hx; exact .any _ .nil
  · intro i v x hv hx
    rw [maskTmps_get] at hx
    cases hy : s.tmps[i]? with
    | none => simp [hy] at hx
    | some y =>
      simp only [hy, Option.map_some, Option.some.injEq] at hx
      by_cases hb : m.testBit (0 + i) = true
      · rw [if_pos hb] at hx; subst hx; exact h.inv.sp i v y hv hy
      · rw [if_neg hb] at hx; subst hx; intro _ _ _ _ _ _ _ h; cases h
  · intro t d c hd hc
    rw [maskLv_get] at hd
    rw [maskLh_get] at hc
    cases hd0 : lv[t]? with
    | none => simp [hd0] at hd
    | some d0 =>
      cases hc0 : s.lh[t]? with
      | none => simp [hc0] at hc
      | some c0 =>
        simp only [hd0, hc0, Option.map_some, Option.some.injEq] at hd hc
        by_cases hb : m.testBit (0 + t) = true
        · rw [if_pos hb] at hd hc; subst hd hc; exact h.inv.lo t d0 c0 hd0 hc0
        · rw [if_neg hb] at hd hc; subst hd hc; trivial
  · intro b
    have h1 := h.inv.one b
    have h2 := tcs_mask_le m b a.tmps.toList s.tmps 0
    have h3 := lc_mask_le m b lv s.lh 0
    simp only
    omega
  · intro b hb
    have h2 := tcs_mask_le m b a.tmps.toList s.tmps 0
    have h3 := lc_mask_le m b lv s.lh 0
    refine h.tk b ?_
    unfold tok at *
    simp only at hb
    omega

theorem cut_sound {s : St} {a : Act} {cs : List Frame} {w : World} {HV : List (List Value)} {lv : List LV} (h : Good B s a cs w I μ HV lv) : ∃ μ' HV', Good B (cutSt s) a cs w I μ' HV' lv := by
  unfold cutSt
  split
  · exact ⟨_, _, h⟩
  · split
    · rename_i hl
      unfold lowSt at hl
      simp only [Bool.and_eq_true] at hl
      obtain ⟨l1, l2, l3, l4, l5⟩ := hl
      have le : ∀ b, (μ.take s.g.base).count b + tcss b (HV.take s.g.base) (s.g.H.take s.g.base) ≤ μ.count b + tcss b HV s.g.H := by
        intro b
        have h1 := count_take b μ s.g.base
        have h2 : tcss b (HV.take s.g.base) (s.g.H.take s.g.base) ≤ tcss b HV s.g.H := zsum_take _ s.g.base _ _
        omega
      refine ⟨μ.take s.g.base, HV.take s.g.base, ⟨h.inv.h.take l5, ⟨h.inv.tms.1, fun i v a hv ha => (h.inv.tms.2 i v a hv ha).take_mu (lows_get l1 ha)⟩, h.inv.sp, h.inv.ll, ?_, ?_⟩, h.df.take_mu l3, h.rm.take_mu l4, h.dk, h.eff, ?_, ?_, h.bs⟩
      · intro t d c hd hc
        have := h.inv.lo t d c hd hc
        unfold LocOk at this ⊢
        split
        · obtain ⟨a1, a2, a3, a4, a5⟩ := this
          exact ⟨a1, a2.take_mu (lowL_get l2 hc), a3, a4, a5⟩
        · trivial
        · rename_i n1 n2
          split at this
          · exact absurd rfl (n1 _ _ _ _ rfl)
          · exact absurd rfl (n2 rfl)
          · exact this
      · intro b
        have h1 := h.inv.one b
        have h2 := le b
        simp only
        omega
      · intro b hb
        refine h.tk b ?_
        have h2 := le b
        unfold tok at *
        simp only at hb
        omega
      · intro i b hi
        have hlt : i < s.g.base := by rw [h.bs]; exact (List.getElem?_eq_some_iff.1 hi).1
        rw [List.getElem?_take, if_pos hlt]
        exact h.mu i b hi
    · exact ⟨_, _, h⟩

theorem mask_sound {s s' : St} {a : Act} {cs : List Frame} {w : World} {HV : List (List Value)} {lv : List LV} (h : Good B s a cs w I μ HV lv) {live : Option Nat} (hm : maskSt live s = some s') :
    ∃ lv' μ' HV', Good B s' a cs w I μ' HV' lv' := by
  unfold maskSt at hm
  split at hm
  · simp only [Option.some.injEq] at hm; subst hm; exact ⟨lv, μ, HV, h⟩
  · rename_i m
    split at hm
    · rename_i hall
      obtain ⟨lv', h1⟩ := mask_sound0 h hall
      split at hm
      · simp only [Option.some.injEq] at hm; subst hm
        obtain ⟨μ', HV', h2⟩ := cut_sound h1
        exact ⟨lv', μ', HV', h2⟩
      · simp only [Option.some.injEq] at hm; subst hm; exact ⟨lv', μ, HV, h1⟩
    · cases hm

theorem drew_good {s : St} {a : Act} {cs : List Frame} {w : World} {HV : List (List Value)} {lv : List LV} (h : Good B s a cs w I μ HV lv) : Good B s a cs { w with drawn := w.drawn + 1 } I μ HV lv := by
  have he : Eff I w (fun _ => False) I { w with drawn := w.drawn + 1 } := ⟨.refl I, fun _ _ _ h => .inl h, fun _ _ _ => rfl, Nat.le_refl _, rfl, rfl, rfl⟩
  have hI : ImmOk I { w with drawn := w.drawn + 1 } := fun b o v hv => h.inv.h.imm b o v hv
  exact ⟨h.inv.eff he hI (fun _ h => h.elim), h.df, h.rm, h.dk, h.eff.trans he (fun _ h => h.elim), h.tk, h.mu, h.bs⟩

/-- Where code leads. -/
def CRel (P : Program) (B : Base) (x : AX) (s' : St) (m : Machine) (b : Frame) (k : List Item) : Prop :=
  match x with
  | .normal => ∃ a' cs' w' I' μ' HV' lv', Good B s' a' cs' w' I' μ' HV' lv' ∧ Steps P m (lone (b.at a' k) cs' w')
  | .exit id => ∃ a' cs' w' I' μ' HV' lv', Good B s' a' cs' w' I' μ' HV' lv' ∧ ∀ k', exitTo id k = some k' → Steps P m (lone (b.at a' k') cs' w')
  | .ret => ∃ a' cs' w' I' μ' HV' lv' todo, Good B s' a' cs' w' I' μ' HV' lv' ∧ Steps P m (lone { b.at a' todo with mode := .returning } cs' w')
  | .panic v => Panics P B v s' m b k

theorem CRel.of_steps {x : AX} {s' : St} {m m1 : Machine} {b : Frame} {k : List Item} (hs : Steps P m m1) (h : CRel P B x s' m1 b k) : CRel P B x s' m b k := by
  cases x with
  | normal => obtain ⟨a', cs', w', I', μ', HV', lv', h1, h2⟩ := h; exact ⟨a', cs', w', I', μ', HV', lv', h1, hs.trans h2⟩
  | exit id => obtain ⟨a', cs', w', I', μ', HV', lv', h1, h2⟩ := h; exact ⟨a', cs', w', I', μ', HV', lv', h1, fun k' hk => hs.trans (h2 k' hk)⟩
  | ret => obtain ⟨a', cs', w', I', μ', HV', lv', todo, h1, h2⟩ := h; exact ⟨a', cs', w', I', μ', HV', lv', todo, h1, hs.trans h2⟩
  | panic v => obtain ⟨a', cs', w', I', μ', HV', lv', ch, h1, h2, h3⟩ := h; exact ⟨a', cs', w', I', μ', HV', lv', ch, h1, h2, .of_steps hs h3⟩

/-- An item that no exit looks at is passed by. -/
theorem CRel.pass {x : AX} {s' : St} {m : Machine} {b : Frame} {it : Item} {k : List Item} (hi : ∀ id k', exitTo id k = some k' → exitTo id (it :: k) = some k') (hx : x ≠ .normal) (h : CRel P B x s' m b (it :: k)) : CRel P B x s' m b k := by
  cases x with
  | normal => exact absurd rfl hx
  | exit id => obtain ⟨a', cs', w', I', μ', HV', lv', h1, h2⟩ := h; exact ⟨a', cs', w', I', μ', HV', lv', h1, fun k' hk => h2 k' (hi id k' hk)⟩
  | ret => exact h
  | panic v => obtain ⟨a', cs', w', I', μ', HV', lv', ch, h1, h2, h3⟩ := h; exact ⟨a', cs', w', I', μ', HV', lv', ch, h1, h2, h3⟩

theorem crel_ops {x : AX} {s' : St} {m : Machine} {b : Frame} {ops : Array Oper} {k : List Item} (h : (x = .normal ∧ Goes P B s' m b ops [] k) ∨ ∃ v, x = .panic v ∧ Panics P B v s' m b k) : CRel P B x s' m b k := by
  rcases h with ⟨rfl, a', cs', w', I', μ', HV', lv', h1, h2⟩ | ⟨v, rfl, h⟩
  · exact ⟨a', cs', w', I', μ', HV', lv', h1, h2.trans (.one step_region_end)⟩
  · exact h

theorem code_sound (hcall : CallSound P B.I call) (hmix : P.follows .mixedOrders = true) {k : Nat} {f : FuncId} : ∀ (c : Code) (bid : Nat) {s : St} {x : AX} {s' : St}, acode P cfg call k f bid c s = some (x, s') →
    ∀ {a : Act} {cs : List Frame} {w : World} {I : Mem} {μ : List Nat} {HV : List (List Value)} {lv : List LV}, Good B s a cs w I μ HV lv → ∀ {b : Frame} {kk : List Item}, (B.dk = true → b.kind = .deferred) →
      CRel P B x s' (lone (b.at a (.code c :: kk)) cs w) b kk := by
  intro c
  induction c with
  | skip =>
    intro bid s x s' h a cs w I μ HV lv hg b kk hb
    simp only [acode, Option.some.injEq, Prod.mk.injEq] at h
    obtain ⟨rfl, rfl⟩ := h
    exact ⟨a, cs, w, I, μ, HV, lv, hg, .one step_skip⟩
  | region id ops draw =>
    intro bid s x s' h a cs w I μ HV lv hg b kk hb
    cases draw with
    | false =>
      simp only [acode] at h
      exact .of_steps (.one step_region) (crel_ops (ops_sound hcall _ h hg hb))
    | true =>
      simp only [acode] at h
      split at h
      · rename_i s1 hd
        simp only [Option.some.injEq, Prod.mk.injEq] at h
        obtain ⟨rfl, rfl⟩ := h
        have ho := order_sound hd (w.tape w.drawn (.order b.fn id))
        refine .of_steps (.one step_region_draw) (crel_ops (ops := ops) ?_)
        rw [show Region.schedule (P.follows .mixedOrders) ops (w.tape w.drawn (.order b.fn id)) = Region.linearise .any ops (w.tape w.drawn (.order b.fn id)) by simp [Region.schedule, hmix]]
        exact ops_sound hcall _ ho (drew_good hg) hb
      · cases h
  | seq x y ihx ihy =>
    intro bid s r s' h a cs w I μ HV lv hg b kk hb
    simp only [acode] at h
    split at h
    · rename_i s1 h1
      obtain ⟨a1, cs1, w1, I1, μ1, HV1, lv1, g1, st1⟩ := ihx bid h1 hg (b := b) (kk := .code y :: kk) hb
      split at h
      · rename_i s2 hm
        obtain ⟨lv2, μ2, HV2, g2⟩ := mask_sound g1 hm
        exact .of_steps (.head step_seq st1) (ihy bid h g2 hb)
      · cases h
    · rename_i r1 hne
      subst_vars
      have := ihx bid h hg (b := b) (kk := .code y :: kk) hb
      refine .of_steps (.one step_seq) (this.pass (fun id k' hk => by simpa [exitTo] using hk) ?_)
      rintro rfl
      exact hne _ h
  | cond c x y ihx ihy =>
    intro bid s r s' h a cs w I μ HV lv hg b kk hb
    simp only [acode] at h
    have hev : a.eval c = cevals a.tmps.toList c := eval_cevals a c
    have hrep := aeval_rep hg.inv.tms c
    split at h
    · rename_i e
      rw [e] at hrep
      have : a.eval c = .bool true := by rw [hev]; exact toVal_trep hrep rfl
      exact .of_steps (.one (step_cond this)) (ihx bid h hg hb)
    · rename_i e
      rw [e] at hrep
      have : a.eval c = .bool false := by rw [hev]; exact toVal_trep hrep rfl
      exact .of_steps (.one (step_cond this)) (ihy bid h hg hb)
    · cases h
  | block id x ih =>
    intro bid s r s' h a cs w I μ HV lv hg b kk hb
    simp only [acode] at h
    have key : ∀ r1 s1, acode P cfg call k f id x s = some (r1, s1) → CRel P B r1 s1 (lone (b.at a (.code x :: .inBlock id :: kk)) cs w) b (.inBlock id :: kk) := fun r1 s1 h1 => ih id h1 hg hb
    split at h
    · rename_i id' s1 h1
      have := key _ _ h1
      obtain ⟨a1, cs1, w1, I1, μ1, HV1, lv1, g1, st1⟩ := this
      split at h
      · rename_i e
        subst e
        simp only [Option.some.injEq, Prod.mk.injEq] at h
        obtain ⟨rfl, rfl⟩ := h
        exact ⟨a1, cs1, w1, I1, μ1, HV1, lv1, g1, .head step_block (st1 kk (by simp [exitTo]))⟩
      · rename_i e
        simp only [Option.some.injEq, Prod.mk.injEq] at h
        obtain ⟨rfl, rfl⟩ := h
        refine ⟨a1, cs1, w1, I1, μ1, HV1, lv1, g1, fun k' hk => .head step_block (st1 k' ?_)⟩
        have : (id == id') = false := by simp; exact fun h => e h.symm
        simp [exitTo, this, hk]
    · rename_i hne
      have := key _ _ h
      refine .of_steps (.one step_block) ?_
      cases r with
      | normal =>
        obtain ⟨a1, cs1, w1, I1, μ1, HV1, lv1, g1, st1⟩ := this
        exact ⟨a1, cs1, w1, I1, μ1, HV1, lv1, g1, st1.trans (.one step_inBlock)⟩
      | exit id' => exact absurd h (hne id' s')
      | ret => exact this
      | panic v => exact this
  | loop x ih =>
    intro bid s r s' h a cs w I μ HV lv hg b kk hb
    simp only [acode] at h
    refine .of_steps (.one step_loop) ?_
    have key : ∀ (n : Nat) {s : St} {r : AX} {s' : St}, aloop (liveAt (cfg f).live bid) (acode P cfg call k f bid x) n s = some (r, s') → ∀ {a : Act} {cs : List Frame} {w : World} {I : Mem} {μ : List Nat} {HV : List (List Value)} {lv : List LV},
        Good B s a cs w I μ HV lv → CRel P B r s' (lone (b.at a (.code x :: .inLoop x :: kk)) cs w) b kk := by
      intro n
      induction n with
      | zero => intro s r s' h; simp [aloop] at h
      | succ n ihn =>
        intro s r s' h a cs w I μ HV lv hg
        simp only [aloop] at h
        split at h
        · cases h
        · rename_i s0 hm
          obtain ⟨lv0, μ0, HV0, hg0⟩ := mask_sound hg hm
          split at h
          · rename_i s1 h1
            obtain ⟨a1, cs1, w1, I1, μ1, HV1, lv1, g1, st1⟩ := ih bid h1 hg0 (b := b) (kk := .inLoop x :: kk) hb
            exact .of_steps (st1.trans (.one step_inLoop)) (ihn h g1)
          · rename_i hne
            have := ih bid h hg0 (b := b) (kk := .inLoop x :: kk) hb
            refine this.pass (fun id k' hk => by simpa [exitTo] using hk) ?_
            rintro rfl
            exact hne _ h
    exact key k h hg
  | exit id =>
    intro bid s x s' h a cs w I μ HV lv hg b kk hb
    simp only [acode, Option.some.injEq, Prod.mk.injEq] at h
    obtain ⟨rfl, rfl⟩ := h
    exact ⟨a, cs, w, I, μ, HV, lv, hg, fun k' hk => .one (step_exit hk)⟩
  | ret =>
    intro bid s x s' h a cs w I μ HV lv hg b kk hb
    simp only [acode, Option.some.injEq, Prod.mk.injEq] at h
    obtain ⟨rfl, rfl⟩ := h
    exact ⟨a, cs, w, I, μ, HV, lv, _, hg, .one step_ret⟩
  | rangeFunc => intro bid s x s' h; simp [acode] at h
  | scope x ih =>
    intro bid s r s' h a cs w I μ HV lv hg b kk hb
    simp only [acode] at h
    have := ih bid h hg (b := b) (kk := .inScope x :: kk) hb
    refine .of_steps (.one step_scope) ?_
    cases r with
    | normal =>
      obtain ⟨a1, cs1, w1, I1, μ1, HV1, lv1, g1, st1⟩ := this
      exact ⟨a1, cs1, w1, I1, μ1, HV1, lv1, g1, st1.trans (.one step_inScope)⟩
    | exit id => exact this.pass (fun id k' hk => by simpa [exitTo] using hk) (by simp)
    | ret => exact this.pass (fun id k' hk => by simpa [exitTo] using hk) (by simp)
    | panic v => exact this.pass (fun id k' hk => by simpa [exitTo] using hk) (by simp)
  | label l =>
    intro bid s x s' h a cs w I μ HV lv hg b kk hb
    simp only [acode, Option.some.injEq, Prod.mk.injEq] at h
    obtain ⟨rfl, rfl⟩ := h
    exact ⟨a, cs, w, I, μ, HV, lv, hg, .one step_label⟩
  | goto => intro bid s x s' h; simp [acode] at h
  | refuse => intro bid s x s' h; simp [acode] at h
end
end Go.Eng
end

section
/-
  THE ENGINE, part 15: deferred calls, results, whole calls: what the interpreter answers, the model answers.
-/
set_option linter.unusedVariables false
set_option linter.unusedSimpArgs false
namespace Go.Eng

section
variable {P : Program} {cfg : FuncId → FCfg} {call : FuncId → List AV → RM → Heap → Option CRes} {B : Base} {I J : Mem} {μ ν : List Nat}

theorem invoke_run {d : Deferred} {g : FuncId} {cap : Array Value} (hd : d.target = .fn (.func g) cap) {fn : Func} {body : Code} (hf : P.funcs[g]? = some fn) (hb : fn.body = some body) (hng : (fn.name == "runtime.NumGoroutine") = false) (w : World) :
    (invoke d.target d.args).run P w = .ok (.enter g (d.args ++ cap)) w := by
  have hng' : ¬ fn.name = "runtime.NumGoroutine" := by simpa using hng
  simp [hd, invoke, callFunc, hf, hb, hng']

theorem settle_rel {rm : RM} {u : FrameMode} (h : ModeRel I μ rm u) : ModeRel I μ (settleA rm) (settle u) := by
  cases rm with
  | none => exact h.elim
  | returning => have : u = .returning := h; subst this; rfl
  | panicking v r =>
    obtain ⟨x, older, rfl, h2, h3⟩ := h
    cases r with
    | false => exact ⟨x, older, rfl, h2, h3⟩
    | true =>
      have : older.dropWhile (!·.goexit) = [] := by
        induction older with
        | nil => rfl
        | cons e l ih =>
          have he := h2 e (by simp)
          simp only [List.dropWhile_cons, he, Bool.not_false, if_true]
          exact ih fun e' he' => h2 e' (by simp [he'])
      simp only [settle, this, ModeRel, settleA]

theorem raised_rel {rm : RM} {u : FrameMode} {v : AV} {chain : List PanicEntry} (h : ModeRel I μ rm u) (hc : ChainRel I μ chain v) : ModeRel I μ (.panicking v false) (raised u chain) := by
  obtain ⟨x, o, rfl, h2, h3⟩ := hc
  cases rm with
  | none => exact h.elim
  | returning => have : u = .returning := h; subst this; exact ⟨x, o, rfl, h2, h3⟩
  | panicking v' r =>
    obtain ⟨y, older, rfl, h5, h6⟩ := h
    refine ⟨x, o ++ ({ v := y, recovered := r, goexit := false } :: older), rfl, fun e he => ?_, h3⟩
    rcases List.mem_append.1 he with he | he
    · exact h2 e he
    · simp only [List.mem_cons] at he
      rcases he with rfl | he
      · rfl
      · exact h5 e he

theorem defers_sound {I0 : Mem} (hcall : CallSound P I0 call) {fn : Func} {tmps : Array Value} {R : Ending → World → Prop} {vs : List Value} {tm : List AV} {lh : List (Option LCell)} {lv : List LV} {A : Nat → Prop} {w0 : World} {μ0 : List Nat} :
    ∀ (ads : List ADef) {m m' : RM} {H H' : Heap}, adefers call ads m H = some (m', H') → ∀ {ds : List Deferred} {u : FrameMode} {w : World} {I : Mem} {μ : List Nat} {HV : List (List Value)},
      FInv I μ HV lv w vs tm lh H → DRel I μ ds ads → ModeRel I μ m u → Eff I0 w0 A I w → (∀ b, 0 < tok μ HV H lv lh vs tm b → A b ∨ w0.heap.size ≤ b) → LeN μ0 μ →
      (∀ {u' : FrameMode} {w' : World} {J : Mem} {ν : List Nat} {HV' : List (List Value)}, FInv J ν HV' lv w' vs tm lh H' → ModeRel J ν m' u' → Eff I0 w0 A J w' → (∀ b, 0 < tok ν HV' H' lv lh vs tm b → A b ∨ w0.heap.size ≤ b) → LeN μ0 ν → Leaves P fn tmps R [] u' w') →
      Leaves P fn tmps R ds u w := by
  intro ads
  induction ads with
  | nil =>
    intro m m' H H' h ds u w I μ HV h1 h2 h3 h4 h5 h6 hk
    simp only [adefers, Option.some.injEq, Prod.mk.injEq] at h
    obtain ⟨rfl, rfl⟩ := h
    cases ds with
    | nil => exact hk h1 h3 h4 h5 h6
    | cons d ds => exact h2.elim
  | cons ad ads ih =>
    intro m m' H H' h ds u w I μ HV h1 h2 h3 h4 h5 h6 hk
    cases ds with
    | nil => exact h2.elim
    | cons d ds =>
      obtain ⟨⟨cap, e1, e2, e3⟩, h2'⟩ := h2
      obtain ⟨sp, tz⟩ := RepL.argSpare (I := I) (w := w) (cargs := d.args.toList ++ cap.toList) e3
      have hone : ∀ b, argTok μ HV H (d.args.toList ++ cap.toList) ad.args b ≤ 1 := fun b => by
        have := h1.one b; have := tz b; unfold argTok; omega
      have hno : (movedTmps ([] : List Operand) ([] : List Bool)).Nodup := by simp [movedTmps]
      have hrest : ∀ {out : Out} {H1 : Heap} {J : Mem} {ν : List Nat} {HV' : List (List Value)} {e : Ending} {w' : World}, CPost I μ HV w H (d.args.toList ++ cap.toList) ad.args out H1 J ν HV' e w' →
          FInv J ν HV' lv w' vs tm lh H1 ∧ Eff I0 w0 A J w' ∧ (∀ b, 0 < tok ν HV' H1 lv lh vs tm b → A b ∨ w0.heap.size ≤ b) ∧ LeN μ0 ν ∧ DRel J ν ds ads := by
        intro out H1 J ν HV' e w' hp
        obtain ⟨f1, f2, f3, f4, f5⟩ := call_frame h1 hno (fun b => by rw [tz b]; exact Nat.zero_le _) hp
        refine ⟨f1, h4.trans f2 h5, fun b hb => ?_, h6.trans f3, h2'.mono f2.le f3⟩
        simp only [disT] at f5
        rcases f5 b (by omega) with q | q
        · exact h5 b q
        · exact .inr (Nat.le_trans h4.size q)
      have hu : u ≠ .run := by
        cases m with
        | none => exact h3.elim
        | returning => have : u = .returning := h3; rw [this]; simp
        | panicking v r => obtain ⟨x, o, rfl, _⟩ := h3; simp
      simp only [adefers] at h
      have hca : d.args ++ cap = (d.args.toList ++ cap.toList).toArray := by apply Array.ext'; simp
      split at h
      · rename_i v1 rm1 H1 hc
        obtain ⟨⟨fn', body, q1, q2, q3⟩, q4⟩ := hcall _ _ _ _ _ hc I μ HV w _ h4.le h1.h e2 sp hone
        have hcd : CallsD P ad.f (d.args ++ cap) u w fun e u' w' => ∃ J ν HV', CPost I μ HV w H (d.args.toList ++ cap.toList) ad.args (.ret v1) H1 J ν HV' e w' ∧ ModeRel J ν rm1 u' := by
          rw [hca]
          cases m with
          | none => exact h3.elim
          | returning => exact q4 u h3
          | panicking v r => exact q4 u h3
        refine ⟨hu, _, cap, _, _, e1, invoke_run e1 q1 q2 q3 w, hcd.mono ?_⟩
        rintro e u' w' ⟨J, ν, HV', hp, hm⟩
        obtain ⟨v', rfl, _⟩ := hp.outr
        obtain ⟨r1, r2, r3, r4, r5⟩ := hrest hp
        exact ih h r1 r5 (settle_rel hm) r2 r3 r4 hk
      · rename_i v1 rm1 H1 hc
        obtain ⟨⟨fn', body, q1, q2, q3⟩, q4⟩ := hcall _ _ _ _ _ hc I μ HV w _ h4.le h1.h e2 sp hone
        have hcd : CallsD P ad.f (d.args ++ cap) u w fun e u' w' => ∃ J ν HV', CPost I μ HV w H (d.args.toList ++ cap.toList) ad.args (.panic v1) H1 J ν HV' e w' ∧ ModeRel J ν rm1 u' := by
          rw [hca]
          cases m with
          | none => exact h3.elim
          | returning => exact q4 u h3
          | panicking v r => exact q4 u h3
        refine ⟨hu, _, cap, _, _, e1, invoke_run e1 q1 q2 q3 w, hcd.mono ?_⟩
        rintro e u' w' ⟨J, ν, HV', hp, hm⟩
        obtain ⟨chain, rfl, hch⟩ := hp.outr
        obtain ⟨r1, r2, r3, r4, r5⟩ := hrest hp
        exact ih h r1 r5 (raised_rel hm hch) r2 r3 r4 hk
      · cases h

/-- One result, as the model has it. -/
def resF (tmps : Array Value) (rv : ResultVar) : Sem Value :=
  match rv with
  | .tmp t => pure (tmps.getD t undef)
  | .cell a t => do loadVar t (← asAddr (tmps.getD a undef))

/-- One result. -/
theorem result_sound {s : St} {tmps : Array Value} {w : World} {HV : List (List Value)} {lv : List LV} {H : Heap} (h : FInv I μ HV lv w tmps.toList s.tmps s.lh H) {rv : ResultVar} {a : AV} (hr : aresult P s H rv = some a) :
    ∃ v, (resF tmps rv).run P w = .ok v w ∧ Rep I μ v a ∧ SpareOk I w v a ∧ ∀ b, tc b v a ≤ tcs b tmps.toList s.tmps := by
  have hget : ∀ t, tmps.getD t undef = cevals tmps.toList (.tmp t) := fun t => by simp [cevals, List.getD_eq_getElem?_getD, Array.getD_eq_getD_getElem?]
  cases rv with
  | tmp t =>
    simp only [aresult] at hr
    split at hr
    · cases hr
    · rename_i hlp
      simp only [Option.some.injEq] at hr; subst hr
      refine ⟨_, rfl, ?_, ?_, fun b => ?_⟩
      · rw [hget]; exact (aeval_rep h.tms (.tmp t)).rep (by simpa [aeval] using hlp)
      · rw [hget]; exact aeval_spare h.tms h.sp (.tmp t)
      · rw [hget]
        simp only [cevals, List.getD_eq_getElem?_getD]
        cases ht : s.tmps[t]? with
        | none =>
          have : tc b (tmps.toList[t]?.getD undef) .any = 0 := by unfold tc; split <;> simp_all
          simp only [Option.getD_none]; rw [this]; exact Nat.zero_le _
        | some a =>
          have htl : t < tmps.toList.length := by rw [h.tms.1]; exact (List.getElem?_eq_some_iff.1 ht).1
          have := zsum_get (tc b) (List.getElem?_eq_getElem htl) ht
          simpa [List.getElem?_eq_getElem htl] using this
  | cell x t =>
    simp only [aresult] at hr
    have hx := aeval_rep h.tms (.tmp x)
    simp only [aeval] at hx
    have key : ∀ {b o : Nat} {ws : List Value} {cs : List AV} {off : Nat}, cevals tmps.toList (.tmp x) = .pointer (some ⟨b, o + off, none⟩) → CellsAt w b o ws → OneCells ws → RepL I μ ws cs → readCells P t cs off = some a →
        ∃ v, (resF tmps (.cell x t)).run P w = .ok v w ∧ Rep I μ v a ∧ SpareOk I w v a ∧ ∀ b, tc b v a ≤ tcs b tmps.toList s.tmps := by
      intro b o ws cs off e1 e2 e3 e4 e5
      obtain ⟨v, r1, r2, r3⟩ := readCells_sound (P := P) e2 e3 e4 e5
      refine ⟨v, ?_, r2, r3.spare w v, fun b => by rw [r3.tc]; exact Nat.zero_le _⟩
      unfold resF
      simp only []
      rw [hget, e1]
      simp [asAddr, r1]
    split at hr
    · rename_i cs e
      rw [e] at hx
      generalize hu : cevals tmps.toList (.tmp x) = u at hx
      cases hx with
      | ref b o ws cs hr' h2 _ => exact key (off := 0) hu (hr'.cells h.h.imm) (hr'.one h.h.imm) h2 hr
    · rename_i id off e
      rw [e] at hx
      split at hr
      · rename_i cs hc
        obtain ⟨b, ws, q1, q2, ⟨ee, k1⟩, k2, k3, k4, k5⟩ := h.h.get hc
        generalize hu : cevals tmps.toList (.tmp x) = u at hx
        cases hx with
        | ptr _ _ b2 hb2 _ =>
          rw [q1] at hb2; cases hb2
          exact key (o := 0) (off := off) (by rw [hu]; simp) (CellsAt.block k1) k3 k2 hr
      · cases hr
    · rename_i l g off e
      rw [e] at hx
      split at hr
      · rename_i g' cs hc
        split at hr
        · rename_i hgg
          subst hgg
          obtain ⟨g1, cs1, b, ws, q1, q2, q3, b', q4, q5⟩ := hx
          rw [hc] at q1; cases q1
          obtain rfl := q5 rfl
          obtain ⟨⟨ee, k1⟩, k2, k3, k4, k5⟩ := h.lo l _ _ q2 hc
          exact key (o := 0) (off := off) (by rw [q4]; simp) (CellsAt.block k1) k3 k2 hr
        · cases hr
      · cases hr
    · cases hr

theorem results_list {s : St} {tmps : Array Value} {w : World} {HV : List (List Value)} {lv : List LV} {H : Heap} (h : FInv I μ HV lv w tmps.toList s.tmps s.lh H) : ∀ {rs : List ResultVar} {avs : List AV}, aresults P s H rs = some avs →
    ∃ vs, (rs.mapM (resF tmps)).run P w = .ok vs w ∧ RepL I μ vs avs ∧
      (∀ (i : Nat) v a, vs[i]? = some v → avs[i]? = some a → SpareOk I w v a ∧ ∀ b, tc b v a ≤ tcs b tmps.toList s.tmps)
  | [], avs, hr => by
    simp only [aresults, Option.some.injEq] at hr; subst hr
    exact ⟨[], by simp, .nil, fun i v a h => by simp at h⟩
  | r :: rs, avs, hr => by
    simp only [aresults] at hr
    split at hr
    · rename_i a l ha hl
      simp only [Option.some.injEq] at hr; subst hr
      obtain ⟨v, e1, e2, e3, e4⟩ := result_sound h ha
      obtain ⟨vs, f1, f2, f3⟩ := results_list h hl
      refine ⟨v :: vs, ?_, .cons e2 f2, fun i u c hu hc => ?_⟩
      · rw [List.mapM_cons]
        simp only [Sem.run_bind]
        rw [e1]
        simp only [Result.andThen_ok, Sem.run_bind]
        rw [f1]
        rfl
      · cases i with
        | zero => simp at hu hc; subst hu hc; exact ⟨e3, e4⟩
        | succ i => exact f3 i u c (by simpa using hu) (by simpa using hc)
    · cases hr

theorem results_sound {fn : Func} {s : St} {tmps : Array Value} {w : World} {HV : List (List Value)} {lv : List LV} {H : Heap} (h : FInv I μ HV lv w tmps.toList s.tmps s.lh H) {avs : List AV} (hr : aresults P s H fn.results.toList = some avs) :
    ∃ v, (results fn tmps).run P w = .ok v w ∧ Rep I μ v (resultOf avs) ∧ SpareOk I w v (resultOf avs) ∧ ∀ b, tc b v (resultOf avs) ≤ tcs b tmps.toList s.tmps := by
  obtain ⟨vs, e1, e2, e3⟩ := results_list h hr
  have hres : results fn tmps = (do let vs ← fn.results.mapM (resF tmps); pure (if h : vs.size = 1 then vs[0] else .tuple vs)) := rfl
  have hrun : (results fn tmps).run P w = .ok (if h : vs.toArray.size = 1 then vs.toArray[0] else .tuple vs.toArray) w := by
    rw [hres, Sem.run_bind, Array.mapM_eq_mapM_toList, Sem.run_map, e1]
    rfl
  have hlen := e2.length
  rcases vs with _ | ⟨v, _ | ⟨v', vs⟩⟩ <;> rcases avs with _ | ⟨a, _ | ⟨a', as⟩⟩ <;> simp at hlen
  · exact ⟨.tuple #[], by rw [hrun]; rfl, .tuple _ _ .nil .nil, fun _ _ _ _ _ _ _ h => (by cases h), fun b => Nat.zero_le _⟩
  · obtain ⟨k1, k2⟩ := e3 0 v a rfl rfl
    exact ⟨v, by rw [hrun]; rfl, e2, k1, k2⟩
  · exact ⟨.tuple (v :: v' :: vs).toArray, by rw [hrun]; simp, .tuple _ _ (by simpa using e2.dis) .nil, fun _ _ _ _ _ _ _ h => (by cases h), fun b => Nat.zero_le _⟩

/-- A frame at its beginning. -/
theorem start_good {I : Mem} {μ : List Nat} {HV : List (List Value)} {w : World} {H : Heap} {cargs : List Value} {args : List AV} (hh : HInv I μ HV w H) (hr : RepL I μ cargs args) (hs : AllSpare I w cargs args) (h1 : ∀ b, argTok μ HV H cargs args b ≤ 1)
    {rm : RM} {cs : List Frame} (hrm : RmOk I μ cs cs rm) (n : Nat) :
    Good ⟨I, μ, w, fun b => 0 < argTok μ HV H cargs args b, cs, !rm.isNone⟩ ⟨args ++ List.replicate (n - args.length) (.val undef), List.replicate n none, ⟨H, [], rm, H.length⟩⟩
      { tmps := cargs.toArray ++ Array.replicate (n - cargs.toArray.size) undef, defers := [] } cs w I μ HV (List.replicate n none) := by
  have hl := hr.length
  have e1 : (cargs.toArray ++ Array.replicate (n - cargs.toArray.size) undef).toList = cargs ++ List.replicate (n - args.length) undef := by simp [hl]
  have hrep : RepL I μ (cargs ++ List.replicate (n - args.length) undef) (args ++ List.replicate (n - args.length) (.val undef)) := hr.append (by
    have := RepL.vals (I := I) (μ := μ) (List.replicate (n - args.length) undef)
    simpa using this)
  have hz : ∀ b k, tcs b (List.replicate k undef) (List.replicate k (.val undef)) = 0 := by
    intro b k; induction k with
    | zero => rfl
    | succ k ih =>
      simp only [tcs] at ih
      simp only [List.replicate_succ, tcs, zsum]
      rw [ih]; rfl
  have hz2 : ∀ b (k : Nat), zsum (lc b) (List.replicate k (none : LV)) (List.replicate k (none : Option LCell)) = 0 := by
    intro b k; induction k with
    | zero => rfl
    | succ k ih => simp only [List.replicate_succ, zsum]; rw [ih]; rfl
  have htok : ∀ b, tok μ HV H (List.replicate n none) (List.replicate n none) (cargs ++ List.replicate (n - args.length) undef) (args ++ List.replicate (n - args.length) (.val undef)) b = argTok μ HV H cargs args b := fun b => by
    have e2 := zsum_append (tc b) (l := cargs) (l' := List.replicate (n - args.length) undef) (m := args) (m' := List.replicate (n - args.length) (.val undef)) hl
    have := hz b (n - args.length)
    have := hz2 b n
    unfold tok argTok
    simp only [tcs] at *
    omega
  have hsp : AllSpare I w (cargs ++ List.replicate (n - args.length) undef) (args ++ List.replicate (n - args.length) (.val undef)) := AllSpare.append hl hs fun i v a hv ha => by
    simp only [List.getElem?_replicate] at ha
    split at ha
    · cases ha; intro _ _ _ _ _ _ _ h; cases h
    · cases ha
  refine ⟨⟨hh, ?_, ?_, by simp, ?_, ?_⟩, trivial, hrm, by simp, .refl _ _ _, ?_, .refl μ, hh.l1.symm⟩
  · simp only [e1]; exact ⟨hrep.length, fun i v a hv ha => .of (hrep.get hv ha)⟩
  · simp only [e1]; exact hsp
  · intro t d c hd hc
    simp only [List.getElem?_replicate] at hd hc
    split at hd
    · rename_i ht; rw [if_pos ht] at hc; cases hd; cases hc; trivial
    · cases hd
  · intro b
    simp only [e1]
    have := htok b; have := h1 b; unfold tok at *; omega
  · intro b hb
    simp only [e1] at hb
    rw [htok] at hb
    exact .inl hb
end
end Go.Eng
end

section
/-
  THE ENGINE, part 15b: a heap is cut back to what it was, where nothing that is left points beyond.
-/
set_option linter.unusedVariables false
set_option linter.unusedSimpArgs false
namespace Go.Eng

theorem CPost.cut {I J : Mem} {μ ν : List Nat} {HV HV' : List (List Value)} {w w' : World} {H H' : Heap} {cargs : List Value} {args : List AV} {out : Out} {e : Ending} {n : Nat}
    (h : CPost I μ HV w H cargs args out H' J ν HV' e w') (hn : μ.length = n) (hv : out.low n = true) (hl : lowss n (H'.take n) = true) :
    CPost I μ HV w H cargs args out (H'.take n) J (ν.take n) (HV'.take n) e w' := by
  have le : ∀ b, (ν.take n).count b + tcss b (HV'.take n) (H'.take n) + outTok b out e ≤ ν.count b + tcss b HV' H' + outTok b out e := by
    intro b
    have h1 := count_take b ν n
    have h2 : tcss b (HV'.take n) (H'.take n) ≤ tcss b HV' H' := zsum_take _ n _ _
    omega
  refine ⟨h.h.take hl, h.eff, ?_, ?_, fun b => Nat.le_trans (le b) (h.one b), fun b hb => h.tok b (Nat.lt_of_lt_of_le hb (le b))⟩
  · intro i b hi
    rw [List.getElem?_take, if_pos (by rw [← hn]; exact (List.getElem?_eq_some_iff.1 hi).1)]
    exact h.mu i b hi
  · cases out with
    | ret v =>
      obtain ⟨v', e1, e2, e3⟩ := h.outr
      exact ⟨v', e1, e2.take_mu (by simp only [lows, Bool.and_true]; exact hv), e3⟩
    | panic v =>
      obtain ⟨chain, e1, u, older, e2, e3, e4⟩ := h.outr
      exact ⟨chain, e1, u, older, e2, e3, e4.take_mu (by simp only [lows, Bool.and_true]; exact hv)⟩

/-- With the cut. -/
theorem CPost.cutRes {I J : Mem} {μ ν : List Nat} {HV HV' : List (List Value)} {w w' : World} {H : Heap} {cargs : List Value} {args : List AV} {r : CRes} {e : Ending} {n : Nat}
    (h : CPost I μ HV w H cargs args r.out r.H J ν HV' e w') (hn : μ.length = n) : ∃ ν' HV'', CPost I μ HV w H cargs args (cutRes n r).out (cutRes n r).H J ν' HV'' e w' := by
  unfold Eng.cutRes
  split
  · exact ⟨_, _, h⟩
  · split
    · rename_i hl
      simp only [Bool.and_eq_true] at hl
      exact ⟨_, _, h.cut hn hl.1 hl.2⟩
    · exact ⟨_, _, h⟩
end Go.Eng
end

section
/-
  THE ENGINE, part 16: what the interpreter answers to a call, the model answers.
-/
set_option linter.unusedVariables false
set_option linter.unusedSimpArgs false
namespace Go.Eng

/-- What is asked of contracts that stand in place of code. -/
def ExtSound (P : Program) (I0 : Mem) (ext : Ext) : Prop :=
  ∀ f e, ext f = some e → ∀ args H out H', e args H = some (out, H') → ∀ I μ HV w cargs, LeM I0 I → HInv I μ HV w H → RepL I μ cargs args → AllSpare I w cargs args → (∀ b, argTok μ HV H cargs args b ≤ 1) →
    Calls P f cargs.toArray w fun e w' => ∃ J ν HV', CPost I μ HV w H cargs args out H' J ν HV' e w'

theorem extSound_none (P : Program) (I0 : Mem) : ExtSound P I0 (fun _ => none) := fun f e h => by cases h

section
variable {P : Program} {cfg : FuncId → FCfg} {call : FuncId → List AV → RM → Heap → Option CRes}

theorem cpost_ret {I : Mem} {μ : List Nat} {HV : List (List Value)} {w : World} {H : Heap} {cargs : List Value} {args : List AV} {J : Mem} {ν : List Nat} {HV' : List (List Value)} {lv : List LV} {w' : World} {vs : List Value} {tm : List AV} {lh : List (Option LCell)} {H' : Heap}
    (h : FInv J ν HV' lv w' vs tm lh H') (he : Eff I w (fun b => 0 < argTok μ HV H cargs args b) J w') (ht : ∀ b, 0 < tok ν HV' H' lv lh vs tm b → 0 < argTok μ HV H cargs args b ∨ w.heap.size ≤ b) (hm : LeN μ ν)
    {v : Value} {a : AV} (hr : Rep J ν v a) (hs : SpareOk J w' v a) (hc : ∀ b, tc b v a ≤ tcs b vs tm) : CPost I μ HV w H cargs args (.ret a) H' J ν HV' (.returned v) w' :=
  ⟨h.h, he, hm, ⟨v, rfl, hr, hs⟩, fun b => by have := h.one b; have := hc b; simp only [outTok]; omega, fun b hb => by
    simp only [outTok] at hb
    have := hc b
    exact ht b (by unfold tok; omega)⟩

theorem cpost_panic {I : Mem} {μ : List Nat} {HV : List (List Value)} {w : World} {H : Heap} {cargs : List Value} {args : List AV} {J : Mem} {ν : List Nat} {HV' : List (List Value)} {lv : List LV} {w' : World} {vs : List Value} {tm : List AV} {lh : List (Option LCell)} {H' : Heap}
    (h : FInv J ν HV' lv w' vs tm lh H') (he : Eff I w (fun b => 0 < argTok μ HV H cargs args b) J w') (ht : ∀ b, 0 < tok ν HV' H' lv lh vs tm b → 0 < argTok μ HV H cargs args b ∨ w.heap.size ≤ b) (hm : LeN μ ν)
    {chain : List PanicEntry} {v : AV} (hr : ChainRel J ν chain v) : CPost I μ HV w H cargs args (.panic v) H' J ν HV' (.panicked chain) w' :=
  ⟨h.h, he, hm, ⟨chain, rfl, hr⟩, fun b => by have := h.one b; simp only [outTok]; omega, fun b hb => by
    simp only [outTok] at hb
    exact ht b (by unfold tok; omega)⟩

theorem rmok_none {I : Mem} {μ : List Nat} {cs0 cs : List Frame} {rm : RM} (h : RmOk I μ cs0 cs rm) (hr : rm.isNone = true) : rm = .none ∧ cs = cs0 := by
  cases rm with
  | none => exact ⟨rfl, h⟩
  | _ => simp [RM.isNone] at hr

theorem body_sound {I : Mem} (hcall : CallSound P I call) (hmix : P.follows .mixedOrders = true) {k : Nat} {f : FuncId} {fn : Func} {c : Code} (hf : P.funcs[f]? = some fn) (hb : fn.body = some c) {args : List AV} {rm : RM} {H : Heap} {res : CRes}
    (h : abody P cfg call k f fn c args rm H = some res) {μ : List Nat} {HV : List (List Value)} {w : World} {cargs : List Value} (hh : HInv I μ HV w H) (hr : RepL I μ cargs args) (hs : AllSpare I w cargs args)
    (h1 : ∀ b, argTok μ HV H cargs args b ≤ 1) :
    (rm = .none → Calls P f cargs.toArray w fun e w' => ∃ J ν HV', CPost I μ HV w H cargs args res.out res.H J ν HV' e w') ∧
    (∀ u, ModeRel I μ rm u → CallsD P f cargs.toArray u w fun e u' w' => ∃ J ν HV', CPost I μ HV w H cargs args res.out res.H J ν HV' e w' ∧ ModeRel J ν res.rm u') := by
  -- the body, and what follows it
  have hbody : ∀ (cs : List Frame) (kd : CallKind), RmOk I μ cs cs rm → (rm.isNone = false → kd = .deferred) → ∃ (x : AX) (s : St) (m : RM) (a' : Act) (cs' : List Frame) (w' : World) (I' : Mem) (μ' : List Nat) (HV' : List (List Value)) (lv' : List LV) (u : FrameMode) (todo : List Item),
      afinish P call fn s m = some res ∧ Good ⟨I, μ, w, fun b => 0 < argTok μ HV H cargs args b, cs, !rm.isNone⟩ s a' cs' w' I' μ' HV' lv' ∧ ModeRel I' μ' m u ∧
      Steps P (lone (Frame.enter P f cargs.toArray kd) cs w) (lone { ({ (default : Frame) with fn := f, kind := kd } : Frame).at a' todo with mode := u } cs' w') := by
    intro cs kd hrm hkd
    have hg := start_good hh hr hs h1 hrm fn.ntmps
    have henter : Frame.enter P f cargs.toArray kd = ({ (default : Frame) with fn := f, kind := kd } : Frame).at { tmps := cargs.toArray ++ Array.replicate (fn.ntmps - cargs.toArray.size) undef, defers := [] } [.code c] := by
      simp [Frame.enter, Frame.at, hf, hb]
    have hkd' : (!rm.isNone) = true → ({ (default : Frame) with fn := f, kind := kd } : Frame).kind = .deferred := fun h => hkd (by simpa using h)
    unfold abody at h
    split at h
    · rename_i s hc
      obtain ⟨a', cs', w', I', μ', HV', lv', g, st⟩ := code_sound hcall hmix c 0 hc hg (b := { (default : Frame) with fn := f, kind := kd }) (kk := []) hkd'
      exact ⟨.normal, s, .returning, a', cs', w', I', μ', HV', lv', .returning, [], h, g, rfl, by rw [henter]; exact st.trans (.one step_end)⟩
    · rename_i s hc
      obtain ⟨a', cs', w', I', μ', HV', lv', todo, g, st⟩ := code_sound hcall hmix c 0 hc hg (b := { (default : Frame) with fn := f, kind := kd }) (kk := []) hkd'
      exact ⟨.ret, s, .returning, a', cs', w', I', μ', HV', lv', .returning, todo, h, g, rfl, by rw [henter]; exact st⟩
    · rename_i v s hc
      obtain ⟨a', cs', w', I', μ', HV', lv', chain, g, hch, todo, st⟩ := code_sound hcall hmix c 0 hc hg (b := { (default : Frame) with fn := f, kind := kd }) (kk := []) hkd'
      obtain ⟨y, older, rfl, q1, q2⟩ := hch
      exact ⟨.panic v, s, .panicking v false, a', cs', w', I', μ', HV', lv', .panicking _, todo, h, g, ⟨y, older, rfl, q1, q2⟩, by rw [henter]; exact st⟩
    · cases h
  refine ⟨fun hrm0 cs => ?_, fun u hu c₀ cs hc₀ => ?_⟩
  · subst hrm0
    obtain ⟨x, s, m, a', cs', w', I', μ', HV', lv', u, todo, hfin, hg, hm, hst⟩ := hbody cs .normal rfl (fun h => by simp [RM.isNone] at h)
    have hgd := hg.dk
    simp only [RM.isNone, Bool.not_true, Bool.not_false] at hgd
    obtain ⟨hsr, hcs⟩ := rmok_none hg.rm (by simpa [RM.isNone] using hgd)
    simp only at hcs
    subst hcs
    unfold afinish at hfin
    rw [hsr] at hfin
    simp only at hfin
    have hL : ∀ {m' : RM} {H' : Heap}, adefers call s.g.defers m s.g.H = some (m', H') →
        (∀ {u' : FrameMode} {w'' : World} {J : Mem} {ν : List Nat} {HV'' : List (List Value)}, FInv J ν HV'' lv' w'' a'.tmps.toList s.tmps s.lh H' → ModeRel J ν m' u' → Eff I w (fun b => 0 < argTok μ HV H cargs args b) J w'' →
          (∀ b, 0 < tok ν HV'' H' lv' s.lh a'.tmps.toList s.tmps b → 0 < argTok μ HV H cargs args b ∨ w.heap.size ≤ b) → LeN μ ν → Leaves P fn a'.tmps (fun e w' => ∃ J ν HV', CPost I μ HV w H cargs args res.out res.H J ν HV' e w') [] u' w'') →
        ∃ e w'' fr, (∃ J ν HV', CPost I μ HV w H cargs args res.out res.H J ν HV' e w'') ∧ Comes P (lone (Frame.enter P f cargs.toArray .normal) cs' w) (lone fr cs' w'') e ∧ fr.fn = f ∧ fr.leaving P w'' e := by
      intro m' H' had hk
      have hl := defers_sound hcall s.g.defers had hg.inv hg.df hm hg.eff hg.tk hg.mu (fn := fn) (tmps := a'.tmps) (R := fun e w' => ∃ J ν HV', CPost I μ HV w H cargs args res.out res.H J ν HV' e w') hk
      obtain ⟨e', w'', fr', hR, hs', hfn', hl'⟩ := leaves_steps a'.defers u w' { ({ (default : Frame) with fn := f, kind := .normal } : Frame).at a' todo with mode := u } cs' rfl rfl rfl hf rfl hl
      exact ⟨e', w'', fr', hR, Comes.of_steps hst hs', hfn', hl'⟩
    split at hfin
    · rename_i H' had
      split at hfin
      · rename_i l hres
        simp only [Option.some.injEq] at hfin; subst hfin
        refine hL had fun {u' w'' J ν HV''} f1 f2 f3 f4 f5 => ?_
        have : u' = .returning := f2
        subst this
        obtain ⟨v, r1, r2, r3, r4⟩ := results_sound f1 hres
        exact ⟨v, r1, J, ν, HV'', cpost_ret f1 f3 f4 f5 r2 r3 r4⟩
      · cases hfin
    · rename_i v H' had
      simp only [Option.some.injEq] at hfin; subst hfin
      refine hL had fun {u' w'' J ν HV''} f1 f2 f3 f4 f5 => ?_
      obtain ⟨y, older, rfl, q1, q2⟩ := f2
      exact ⟨J, ν, HV'', cpost_panic f1 f3 f4 f5 ⟨y, older, rfl, q1, q2⟩⟩
    · cases hfin
  · have hnn : rm.isNone = false := by cases rm <;> first | exact hu.elim | rfl
    have hcc : ({ c₀ with mode := u } : Frame) = c₀ := by subst hc₀; rfl
    have hrmok : RmOk I μ (c₀ :: cs) (c₀ :: cs) rm := by
      cases rm with
      | none => exact hu.elim
      | returning => exact ⟨c₀, cs, u, rfl, by rw [hcc], hu⟩
      | panicking v r => exact ⟨c₀, cs, u, rfl, by rw [hcc], hu⟩
    obtain ⟨x, s, m, a', cs', w', I', μ', HV', lv', u1, todo, hfin, hg, hm, hst⟩ := hbody (c₀ :: cs) .deferred hrmok (fun _ => rfl)
    have hgd := hg.dk
    simp only [hnn, Bool.not_false, Bool.not_true] at hgd
    have hgr := hg.rm
    simp only at hgr
    have hsnn : ∃ u', cs' = { c₀ with mode := u' } :: cs ∧ ModeRel I' μ' s.g.rm u' := by
      cases hs : s.g.rm with
      | none => rw [hs] at hgd; simp [RM.isNone] at hgd
      | returning => rw [hs] at hgr; obtain ⟨c1, r1, u', e1, e2, e3⟩ := hgr; cases e1; exact ⟨u', e2, e3⟩
      | panicking v r => rw [hs] at hgr; obtain ⟨c1, r1, u', e1, e2, e3⟩ := hgr; cases e1; exact ⟨u', e2, e3⟩
    obtain ⟨u', hcs', hmr⟩ := hsnn
    have hfin2 : s.g.defers.isEmpty = true ∧ ((m = .returning ∧ ∃ l, aresults P s s.g.H fn.results.toList = some l ∧ res = ⟨.ret (resultOf l), s.g.rm, s.g.H⟩) ∨ (∃ v, m = .panicking v false ∧ res = ⟨.panic v, s.g.rm, s.g.H⟩)) := by
      unfold afinish at hfin
      split at hfin
      · rename_i hs; rw [hs] at hgd; simp [RM.isNone] at hgd
      · split at hfin
        · rename_i hem
          refine ⟨hem, ?_⟩
          split at hfin
          · split at hfin
            · rename_i l hres
              simp only [Option.some.injEq] at hfin
              exact .inl ⟨rfl, l, hres, hfin.symm⟩
            · cases hfin
          · rename_i v
            simp only [Option.some.injEq] at hfin
            exact .inr ⟨v, rfl, hfin.symm⟩
          · cases hfin
        · cases hfin
    obtain ⟨hem, hcase⟩ := hfin2
    have hdf : a'.defers = [] := by
      have h2 := hg.df
      have : s.g.defers = [] := by simpa using hem
      rw [this] at h2
      cases hd : a'.defers with
      | nil => rfl
      | cons d ds => rw [hd] at h2; exact h2.elim
    rw [hcs'] at hst
    rcases hcase with ⟨rfl, l, hres, rfl⟩ | ⟨v, rfl, rfl⟩
    · have : u1 = .returning := hm
      subst this
      obtain ⟨v, r1, r2, r3, r4⟩ := results_sound hg.inv hres
      exact ⟨.returned v, u', w', _, ⟨I', μ', HV', cpost_ret hg.inv hg.eff hg.tk hg.mu r2 r3 r4, hmr⟩, hst, rfl, rfl, hdf, fn, hf, r1⟩
    · obtain ⟨y, older, rfl, q1, q2⟩ := hm
      exact ⟨.panicked _, u', w', _, ⟨I', μ', HV', cpost_panic hg.inv hg.eff hg.tk hg.mu ⟨y, older, rfl, q1, q2⟩, hmr⟩, hst, rfl, rfl, hdf, fn, hf⟩

/-! ### results told by their types -/
theorem normV_rep {I : Mem} {μ : List Nat} {t : TypeId} {v : Value} {a : AV} (h : Rep I μ v a) : Rep I μ v (normV P t a) := by
  cases a with
  | slice sz rows own =>
    have hno : ∀ {n : Nat}, rows = [] ∨ n = sz → Rep I μ v (.slice n rows .no) := by
      intro n hn
      cases h with
      | slice0 sz own _ => exact .slice0 _ _ .nil
      | slice b o cap sz ws rows own hr h2 hl hc hf _ =>
        refine .slice b o cap n ws rows .no hr h2 (fun r hr => ?_) hc (fun h => by cases h) .nil
        rcases hn with rfl | rfl
        · cases hr
        · exact hl r hr
      | slice1 a cap sz own ho _ => exact .slice1 _ _ _ _ (.inl rfl) .nil
    unfold normV
    simp only
    split
    · split
      · split
        · exact hno (.inr rfl)
        · split
          · exact hno (.inl rfl)
          · exact h
      · exact h
    · exact h
  | _ => exact h
theorem normV_tc {b : Nat} {t : TypeId} {v : Value} {a : AV} : tc b v (normV P t a) ≤ tc b v a := by
  cases a with
  | slice sz rows own =>
    have hno : ∀ n (rows' : List (List AV)), tc b v (.slice n rows' .no) ≤ tc b v (.slice sz rows own) := by
      intro n rows'
      have : tc b v (.slice n rows' .no) = 0 := by unfold tc; split <;> simp_all
      omega
    unfold normV
    simp only
    split
    · split
      · split
        · exact hno _ _
        · split
          · exact hno _ _
          · exact Nat.le_refl _
      · exact Nat.le_refl _
    · exact Nat.le_refl _
  | _ => exact Nat.le_refl _
theorem normV_spare {I : Mem} {w : World} {t : TypeId} {v : Value} {a : AV} (h : SpareOk I w v a) : SpareOk I w v (normV P t a) := by
  cases a with
  | slice sz rows own =>
    have hno : ∀ n (rows' : List (List AV)), SpareOk I w v (.slice n rows' .no) := by
      intro n rows' _ _ _ _ _ _ _ h; cases h
    unfold normV
    simp only
    split
    · split
      · split
        · exact hno _ _
        · split
          · exact hno _ _
          · exact h
      · exact h
    · exact h
  | _ => exact h
theorem normL_rep {I : Mem} {μ : List Nat} : ∀ {ts : List TypeId} {vs : List Value} {as : List AV}, RepL I μ vs as → RepL I μ vs (normL P ts as)
  | [], _, _, h => by unfold normL; exact h
  | t :: ts, _, [], h => h
  | t :: ts, [], a :: as, h => by cases h
  | t :: ts, v :: vs, a :: as, h => by
    obtain ⟨h1, h2⟩ := h.uncons
    exact .cons (normV_rep h1) (normL_rep h2)
theorem CPost.norm {I J : Mem} {μ ν : List Nat} {HV HV' : List (List Value)} {w w' : World} {H : Heap} {cargs : List Value} {args : List AV} {r : CRes} {e : Ending} {b : Bool} {ts : List TypeId}
    (h : CPost I μ HV w H cargs args r.out r.H J ν HV' e w') : CPost I μ HV w H cargs args (normRes P b ts r).out (normRes P b ts r).H J ν HV' e w' := by
  cases b with
  | false => exact h
  | true =>
    have key : ∀ o, OutRel J ν w' o e → OutRel J ν w' (normO P ts o) e ∧ ∀ b, outTok b (normO P ts o) e ≤ outTok b o e := by
      intro o ho
      cases o with
      | panic v => exact ⟨ho, fun b => Nat.le_refl _⟩
      | ret v =>
        obtain ⟨v', rfl, h1, h2⟩ := ho
        unfold normO
        simp only
        split
        · exact ⟨⟨v', rfl, normV_rep h1, normV_spare h2⟩, fun b => normV_tc⟩
        · split
          · rename_i vs
            refine ⟨⟨v', rfl, ?_, fun _ _ _ _ _ _ _ h => by cases h⟩, fun b => ?_⟩
            · cases h1 with
              | tuple ws aws hw _ => exact .tuple ws _ (normL_rep hw) .nil
            · have : tc b v' (.tuple (normL P ts vs)) = 0 := by unfold tc; split <;> simp_all
              simp only [outTok, this]; omega
          · exact ⟨⟨v', rfl, h1, h2⟩, fun b => Nat.le_refl _⟩
    obtain ⟨k1, k2⟩ := key r.out h.outr
    exact ⟨h.h, h.eff, h.mu, k1, fun b => by have := h.one b; have := k2 b; simp only [normRes]; omega, fun b hb => h.tok b (by have := k2 b; simp only [normRes] at hb; omega)⟩

/-- The interpreter's calls are the model's. -/
theorem acall_sound (hmix : P.follows .mixedOrders = true) (hng : ∀ (f : FuncId) (fn : Func), P.funcs[f]? = some fn → (fn.name == "runtime.NumGoroutine") = false) {ext : Ext} {I0 : Mem} (hext : ExtSound P I0 ext) (hextb : ∀ (f : FuncId) e, ext f = some e → ∃ (fn : Func) (c : Code), P.funcs[f]? = some fn ∧ fn.body = some c) :
    ∀ k, CallSound P I0 (acall P cfg ext k) := by
  intro k
  induction k with
  | zero => intro f args rm H res h; simp [acall] at h
  | succ k ih =>
    intro f args rm H res h I μ HV w cargs hI hh hr hs h1
    simp only [acall] at h
    split at h
    · rename_i e he
      split at h
      · split at h
        · rename_i out H' heq
          simp only [Option.some.injEq] at h; subst h
          obtain ⟨fn, c, hf, hb⟩ := hextb f e he
          exact ⟨⟨fn, c, hf, hb, hng f fn hf⟩, hext f e he args H out H' heq I μ HV w cargs hI hh hr hs h1⟩
        · cases h
      · cases h
    · split at h
      · cases h
      · rename_i fn hf
        split at h
        · cases h
        · rename_i c hb
          rw [Option.map_eq_some_iff] at h
          obtain ⟨res0, h, rfl⟩ := h
          obtain ⟨b1, b2⟩ := body_sound (ih.mono hI) hmix hf hb h hh hr hs h1
          refine ⟨⟨fn, c, hf, hb, hng f fn hf⟩, ?_⟩
          cases rm with
          | none =>
            refine (b1 rfl).mono fun e w' ⟨J, ν, HV', hp⟩ => ?_
            obtain ⟨ν', HV'', hq⟩ := hp.cutRes hh.l1
            exact ⟨J, ν', HV'', hq.norm⟩
          | returning =>
            intro u hu
            refine (b2 u hu).mono ?_
            rintro e u' w' ⟨J, ν, HV', hp, hm⟩
            refine ⟨J, ν, HV', hp.norm, ?_⟩
            unfold normRes; split <;> exact hm
          | panicking v r =>
            intro u hu
            refine (b2 u hu).mono ?_
            rintro e u' w' ⟨J, ν, HV', hp, hm⟩
            refine ⟨J, ν, HV', hp.norm, ?_⟩
            unfold normRes; split <;> exact hm
end
end Go.Eng
end

section
/-
  THE ENGINE, part 17: the interpreter without fuel: what comes with enough of it (ev), and that it goes by the code.
-/
set_option linter.unusedVariables false
set_option linter.unusedSimpArgs false
namespace Go.Eng

abbrev CallF := FuncId → List AV → RM → Heap → Option CRes
def LeC (a b : CallF) : Prop := ∀ f args rm H r, a f args rm H = some r → b f args rm H = some r

section
variable {P : Program} {cfg : FuncId → FCfg} {a b : CallF}

theorem acallv_mono (h : LeC a b) {g : FuncId} {args : List AV} {m : G} {r : GR} (hr : acallv a g args m = some r) : acallv b g args m = some r := by
  unfold acallv at *
  split at hr
  · cases hr
  · rename_i hlp
    rw [if_neg hlp]
    split at hr
    · rename_i e; rw [h _ _ _ _ _ e]; exact hr
    · rename_i e; rw [h _ _ _ _ _ e]; exact hr
    · cases hr

theorem aglob_mono (h : LeC a b) {f : FuncId} {o : Oper} {vs : List AV} {m : G} {r : GR} (hr : aglob P cfg a f o vs m = some r) : aglob P cfg b f o vs m = some r := by
  unfold aglob at *
  split at hr <;> try exact hr
  split at hr <;> try exact hr
  split at hr
  · exact acallv_mono h hr
  · cases hr

theorem aop_mono (h : LeC a b) {f : FuncId} {o : Oper} {s : St} {r : SR} (hr : aop P cfg a f o s = some r) : aop P cfg b f o s = some r := by
  unfold aop at *
  simp only at *
  split at hr
  · rename_i hn
    rw [if_pos hn]
    split at hr
    · exact hr
    · exact hr
    · split at hr
      · rename_i e; rw [aglob_mono h e]; exact hr
      · rename_i e; rw [aglob_mono h e]; exact hr
      · cases hr
  · cases hr

theorem astep_mono (h : LeC a b) {f : FuncId} {ops : Array Oper} {o : Oper} {s : St} {r : SR} (hr : astep P cfg a f ops o s = some r) : astep P cfg b f ops o s = some r := by
  unfold astep at *
  split at hr
  · exact aop_mono h hr
  · exact hr
  · cases hr

theorem aops_mono (h : LeC a b) {f : FuncId} {ops : Array Oper} : ∀ {l : List Nat} {s : St} {r : AX × St}, aops P cfg a f ops l s = some r → aops P cfg b f ops l s = some r := by
  intro l
  induction l with
  | nil => intro s r hr; exact hr
  | cons i l ih =>
    intro s r hr
    simp only [aops] at *
    split at hr
    · cases hr
    · split at hr
      · rename_i e; rw [astep_mono h e]; exact ih hr
      · rename_i e; rw [astep_mono h e]; exact hr
      · cases hr

theorem adraw_mono (h : LeC a b) {f : FuncId} {ops : Array Oper} : ∀ {l : List Oper} {i : Nat} {ancs : List Nat} {foot : List (Nat × Nat)} {s : St} {r : St}, adraw P cfg a f ops l i ancs foot s = some r → adraw P cfg b f ops l i ancs foot s = some r := by
  intro l
  induction l with
  | nil => intro i ancs foot s r hr; exact hr
  | cons o l ih =>
    intro i ancs foot s r hr
    simp only [adraw] at *
    split at hr
    · rename_i hc
      rw [if_pos hc]
      split at hr
      · rename_i e; rw [astep_mono h e]; exact ih hr
      · cases hr
    · cases hr

theorem aloop_mono {live : Option Nat} {x y : St → Option (AX × St)} (h : ∀ s r, x s = some r → y s = some r) : ∀ {n m : Nat}, n ≤ m → ∀ {s : St} {r : AX × St}, aloop live x n s = some r → aloop live y m s = some r := by
  intro n
  induction n with
  | zero => intro m _ s r hr; simp [aloop] at hr
  | succ n ih =>
    intro m hm s r hr
    obtain ⟨m, rfl⟩ : ∃ k, m = k + 1 := ⟨m - 1, by omega⟩
    simp only [aloop] at *
    split at hr
    · cases hr
    · split at hr
      · rename_i e; rw [h _ _ e]; exact ih (by omega) hr
      · rename_i hne
        rw [h _ _ hr]
        split
        · rename_i e; exact absurd (hr.trans e) (by intro hh; exact hne _ hh)
        · rfl

theorem acode_mono (h : LeC a b) {k k' : Nat} (hk : k ≤ k') {f : FuncId} : ∀ {c : Code} {bid : Nat} {s : St} {r : AX × St}, acode P cfg a k f bid c s = some r → acode P cfg b k' f bid c s = some r := by
  intro c
  induction c with
  | skip => intro bid s r hr; simpa [acode] using hr
  | region id ops d =>
    intro bid s r hr
    cases d with
    | false => simp only [acode] at *; exact aops_mono h hr
    | true =>
      simp only [acode] at *
      split at hr
      · rename_i e; rw [adraw_mono h e]; exact hr
      · cases hr
  | seq x y ihx ihy =>
    intro bid s r hr
    simp only [acode] at *
    split at hr
    · rename_i e
      rw [ihx e]
      simp only
      split at hr
      · rename_i e2; exact ihy hr
      · cases hr
    · rename_i hne
      rw [ihx hr]
      split
      · rename_i e; exact absurd (hr.trans e) (by intro hh; exact hne _ hh)
      · rfl
  | cond c x y ihx ihy =>
    intro bid s r hr
    simp only [acode] at *
    split at hr
    · exact ihx hr
    · exact ihy hr
    · cases hr
  | block id x ih =>
    intro bid s r hr
    simp only [acode] at *
    split at hr
    · rename_i e; rw [ih e]; exact hr
    · rename_i hne
      rw [ih hr]
      split
      · rename_i e; exact absurd (hr.trans e) (by intro hh; exact hne _ _ hh)
      · rfl
  | loop x ih => intro bid s r hr; simp only [acode] at *; exact aloop_mono (fun s r e => ih e) hk hr
  | exit id => intro bid s r hr; simpa [acode] using hr
  | ret => intro bid s r hr; simpa [acode] using hr
  | rangeFunc => intro bid s r hr; simp [acode] at hr
  | scope x ih => intro bid s r hr; simp only [acode] at *; exact ih hr
  | label => intro bid s r hr; simpa [acode] using hr
  | goto => intro bid s r hr; simp [acode] at hr
  | refuse => intro bid s r hr; simp [acode] at hr

theorem adefers_mono (h : LeC a b) : ∀ {l : List ADef} {m : RM} {H : Heap} {r : RM × Heap}, adefers a l m H = some r → adefers b l m H = some r := by
  intro l
  induction l with
  | nil => intro m H r hr; exact hr
  | cons d l ih =>
    intro m H r hr
    simp only [adefers] at *
    split at hr
    · rename_i e; rw [h _ _ _ _ _ e]; exact ih hr
    · rename_i e; rw [h _ _ _ _ _ e]; exact ih hr
    · cases hr

theorem afinish_mono (h : LeC a b) {fn : Func} {s : St} {m : RM} {r : CRes} (hr : afinish P a fn s m = some r) : afinish P b fn s m = some r := by
  unfold afinish at *
  split at hr
  · rename_i e
    split at hr
    · rename_i e2; rw [adefers_mono h e2]; exact hr
    · rename_i e2; rw [adefers_mono h e2]; exact hr
    · cases hr
  · exact hr

theorem abody_mono (h : LeC a b) {k k' : Nat} (hk : k ≤ k') {f : FuncId} {fn : Func} {c : Code} {args : List AV} {rm : RM} {H : Heap} {r : CRes} (hr : abody P cfg a k f fn c args rm H = some r) : abody P cfg b k' f fn c args rm H = some r := by
  unfold abody at *
  split at hr
  · rename_i e; rw [acode_mono h hk e]; exact afinish_mono h hr
  · rename_i e; rw [acode_mono h hk e]; exact afinish_mono h hr
  · rename_i e; rw [acode_mono h hk e]; exact afinish_mono h hr
  · cases hr

theorem acall_step {ext : Ext} : ∀ k, LeC (acall P cfg ext k) (acall P cfg ext (k + 1)) := by
  intro k
  induction k with
  | zero => intro f args rm H r hr; simp [acall] at hr
  | succ k ih =>
    intro f args rm H r hr
    rw [acall] at hr ⊢
    simp only at *
    split at hr
    · exact hr
    · split at hr
      · cases hr
      · split at hr
        · cases hr
        · rw [Option.map_eq_some_iff] at hr ⊢
          obtain ⟨r0, hr, e⟩ := hr
          exact ⟨r0, abody_mono ih (Nat.le_succ k) hr, e⟩

theorem acall_mono {ext : Ext} {k k' : Nat} (h : k ≤ k') : LeC (acall P cfg ext k) (acall P cfg ext k') := by
  induction k' with
  | zero => have : k = 0 := by omega
            subst this; exact fun _ _ _ _ _ h => h
  | succ k' ih =>
    by_cases e : k = k' + 1
    · subst e; exact fun _ _ _ _ _ h => h
    · exact fun f args rm H r hr => acall_step k' f args rm H r (ih (by omega) f args rm H r hr)

open Classical in
/-- What a call comes to with enough fuel. -/
noncomputable def ev (P : Program) (cfg : FuncId → FCfg) (ext : Ext) : CallF := fun f args rm H =>
  if h : ∃ r, ∃ k, acall P cfg ext k f args rm H = some r then some (Classical.choose h) else none

theorem ev_iff {ext : Ext} {f : FuncId} {args : List AV} {rm : RM} {H : Heap} {r : CRes} : ev P cfg ext f args rm H = some r ↔ ∃ k, acall P cfg ext k f args rm H = some r := by
  unfold ev
  constructor
  · intro h
    split at h
    · rename_i hx
      simp only [Option.some.injEq] at h; subst h
      exact Classical.choose_spec hx
    · cases h
  · rintro ⟨k, hk⟩
    have hx : ∃ r, ∃ k, acall P cfg ext k f args rm H = some r := ⟨r, k, hk⟩
    rw [dif_pos hx]
    obtain ⟨k', hk'⟩ := Classical.choose_spec hx
    have h1 := acall_mono (Nat.le_max_left k k') _ _ _ _ _ hk
    have h2 := acall_mono (Nat.le_max_right k k') _ _ _ _ _ hk'
    rw [h1] at h2
    exact congrArg some (Option.some.inj h2).symm

open Classical in
/-- A loop's rounds, as many as it takes. -/
noncomputable def loopE (live : Option Nat) (body : St → Option (AX × St)) (s : St) : Option (AX × St) :=
  if h : ∃ r, ∃ n, aloop live body n s = some r then some (Classical.choose h) else none

theorem loopE_iff {live : Option Nat} {body : St → Option (AX × St)} {s : St} {r : AX × St} : loopE live body s = some r ↔ ∃ n, aloop live body n s = some r := by
  unfold loopE
  constructor
  · intro h
    split at h
    · rename_i hx
      simp only [Option.some.injEq] at h; subst h
      exact Classical.choose_spec hx
    · cases h
  · rintro ⟨k, hk⟩
    have hx : ∃ r, ∃ n, aloop live body n s = some r := ⟨r, k, hk⟩
    rw [dif_pos hx]
    obtain ⟨k', hk'⟩ := Classical.choose_spec hx
    have h1 := aloop_mono (fun _ _ h => h) (Nat.le_max_left k k') hk
    have h2 := aloop_mono (fun _ _ h => h) (Nat.le_max_right k k') hk'
    rw [h1] at h2
    exact congrArg some (Option.some.inj h2).symm

section
variable (P) (cfg) (call : CallF)
/-- Code, without a bound on rounds. -/
noncomputable def codeE (f : FuncId) : (b : Nat) → Code → St → Option (AX × St)
  | _, .skip, s => some (.normal, s)
  | _, .region _ ops false, s => aops P cfg call f ops (List.range ops.size) s
  | _, .region _ ops true, s => match adraw P cfg call f ops ops.toList 0 [] [] s with
    | some s' => some (.normal, s')
    | none => none
  | b, .seq x y, s => match codeE f b x s with
    | some (.normal, s') => match maskSt (liveAt (cfg f).live (codeKey y)) s' with
      | some s2 => codeE f b y s2
      | none => none
    | r => r
  | b, .cond c x y, s => match aeval s.tmps c with
    | .val (.bool true) => codeE f b x s
    | .val (.bool false) => codeE f b y s
    | _ => none
  | _, .block id x, s => match codeE f id x s with
    | some (.exit id', s') => if id' = id then some (.normal, s') else some (.exit id', s')
    | r => r
  | b, .loop x, s => loopE (liveAt (cfg f).live b) (codeE f b x) s
  | _, .exit id, s => some (.exit id, s)
  | _, .ret, s => some (.ret, s)
  | b, .scope x, s => codeE f b x s
  | _, .label _, s => some (.normal, s)
  | _, _, _ => none

noncomputable def bodyE (f : FuncId) (fn : Func) (c : Code) (args : List AV) (rm : RM) (H : Heap) : Option CRes :=
  match codeE P cfg call f 0 c ⟨args ++ List.replicate (fn.ntmps - args.length) (.val undef), List.replicate fn.ntmps none, ⟨H, [], rm, H.length⟩⟩ with
  | some (.normal, s) => afinish P call fn s .returning
  | some (.ret, s) => afinish P call fn s .returning
  | some (.panic v, s) => afinish P call fn s (.panicking v false)
  | _ => none
end

variable {ext : Ext}

theorem ev_get {f : FuncId} {args : List AV} {rm : RM} {H : Heap} {r : CRes} (h : ev P cfg ext f args rm H = some r) : ∃ K, ∀ k, K ≤ k → acall P cfg ext k f args rm H = some r := by
  obtain ⟨K, hK⟩ := ev_iff.1 h
  exact ⟨K, fun k hk => acall_mono hk _ _ _ _ _ hK⟩

theorem acallv_fin {g : FuncId} {args : List AV} {m : G} {r : GR} (hr : acallv (ev P cfg ext) g args m = some r) : ∃ K, ∀ k, K ≤ k → acallv (acall P cfg ext k) g args m = some r := by
  unfold acallv at *
  split at hr
  · cases hr
  · rename_i hlp
    simp only [if_neg hlp]
    split at hr
    · rename_i e; obtain ⟨K, hK⟩ := ev_get e; exact ⟨K, fun k hk => by rw [hK k hk]; exact hr⟩
    · rename_i e; obtain ⟨K, hK⟩ := ev_get e; exact ⟨K, fun k hk => by rw [hK k hk]; exact hr⟩
    · cases hr

theorem aglob_fin {f : FuncId} {o : Oper} {vs : List AV} {m : G} {r : GR} (hr : aglob P cfg (ev P cfg ext) f o vs m = some r) : ∃ K, ∀ k, K ≤ k → aglob P cfg (acall P cfg ext k) f o vs m = some r := by
  unfold aglob at *
  split at hr <;> try exact ⟨0, fun k _ => hr⟩
  split at hr <;> try exact ⟨0, fun k _ => hr⟩
  split at hr
  · exact acallv_fin hr
  · cases hr

theorem aop_fin {f : FuncId} {o : Oper} {s : St} {r : SR} (hr : aop P cfg (ev P cfg ext) f o s = some r) : ∃ K, ∀ k, K ≤ k → aop P cfg (acall P cfg ext k) f o s = some r := by
  unfold aop at *
  simp only at *
  split at hr
  · rename_i hn
    simp only [if_pos hn]
    split at hr
    · exact ⟨0, fun k _ => hr⟩
    · exact ⟨0, fun k _ => hr⟩
    · split at hr
      · rename_i e; obtain ⟨K, hK⟩ := aglob_fin e; exact ⟨K, fun k hk => by rw [hK k hk]; exact hr⟩
      · rename_i e; obtain ⟨K, hK⟩ := aglob_fin e; exact ⟨K, fun k hk => by rw [hK k hk]; exact hr⟩
      · cases hr
  · cases hr

theorem astep_fin {f : FuncId} {ops : Array Oper} {o : Oper} {s : St} {r : SR} (hr : astep P cfg (ev P cfg ext) f ops o s = some r) : ∃ K, ∀ k, K ≤ k → astep P cfg (acall P cfg ext k) f ops o s = some r := by
  unfold astep at *
  split at hr
  · exact aop_fin hr
  · exact ⟨0, fun k _ => hr⟩
  · cases hr

theorem aops_fin {f : FuncId} {ops : Array Oper} : ∀ {l : List Nat} {s : St} {r : AX × St}, aops P cfg (ev P cfg ext) f ops l s = some r → ∃ K, ∀ k, K ≤ k → aops P cfg (acall P cfg ext k) f ops l s = some r := by
  intro l
  induction l with
  | nil => intro s r hr; exact ⟨0, fun k _ => hr⟩
  | cons i l ih =>
    intro s r hr
    simp only [aops] at *
    split at hr
    · cases hr
    · rename_i o ho
      split at hr
      · rename_i e
        obtain ⟨K, hK⟩ := astep_fin e
        obtain ⟨K', hK'⟩ := ih hr
        exact ⟨max K K', fun k hk => by rw [hK k (by omega)]; exact hK' k (by omega)⟩
      · rename_i e
        obtain ⟨K, hK⟩ := astep_fin e
        exact ⟨K, fun k hk => by rw [hK k hk]; exact hr⟩
      · cases hr

theorem adraw_fin {f : FuncId} {ops : Array Oper} : ∀ {l : List Oper} {i : Nat} {ancs : List Nat} {foot : List (Nat × Nat)} {s : St} {r : St}, adraw P cfg (ev P cfg ext) f ops l i ancs foot s = some r → ∃ K, ∀ k, K ≤ k → adraw P cfg (acall P cfg ext k) f ops l i ancs foot s = some r := by
  intro l
  induction l with
  | nil => intro i ancs foot s r hr; exact ⟨0, fun k _ => hr⟩
  | cons o l ih =>
    intro i ancs foot s r hr
    simp only [adraw] at *
    split at hr
    · rename_i hc
      simp only [if_pos hc]
      split at hr
      · rename_i e
        obtain ⟨K, hK⟩ := astep_fin e
        obtain ⟨K', hK'⟩ := ih hr
        exact ⟨max K K', fun k hk => by rw [hK k (by omega)]; exact hK' k (by omega)⟩
      · cases hr
    · cases hr

theorem codeE_fin {f : FuncId} : ∀ {c : Code} {bid : Nat} {s : St} {r : AX × St}, codeE P cfg (ev P cfg ext) f bid c s = some r → ∃ K, ∀ k, K ≤ k → acode P cfg (acall P cfg ext k) k f bid c s = some r := by
  intro c
  induction c with
  | skip => intro bid s r hr; exact ⟨0, fun k _ => by simpa [acode, codeE] using hr⟩
  | region id ops d =>
    intro bid s r hr
    cases d with
    | false => simp only [acode, codeE] at *; exact aops_fin hr
    | true =>
      simp only [acode, codeE] at *
      split at hr
      · rename_i e
        obtain ⟨K, hK⟩ := adraw_fin e
        exact ⟨K, fun k hk => by rw [hK k hk]; exact hr⟩
      · cases hr
  | seq x y ihx ihy =>
    intro bid s r hr
    simp only [acode, codeE] at *
    split at hr
    · rename_i e
      obtain ⟨K, hK⟩ := ihx e
      split at hr
      · rename_i s2 hm
        obtain ⟨K', hK'⟩ := ihy hr
        exact ⟨max K K', fun k hk => by rw [hK k (by omega)]; simp only [hm]; exact hK' k (by omega)⟩
      · cases hr
    · rename_i hne
      obtain ⟨K, hK⟩ := ihx hr
      refine ⟨K, fun k hk => ?_⟩
      rw [hK k hk]
      split
      · rename_i e; exact absurd (hr.trans e) (by intro hh; exact hne _ hh)
      · rfl
  | cond c x y ihx ihy =>
    intro bid s r hr
    simp only [acode, codeE] at *
    split at hr
    · rename_i e; simp only [e]; exact ihx hr
    · rename_i e; simp only [e]; exact ihy hr
    · cases hr
  | block id x ih =>
    intro bid s r hr
    simp only [acode, codeE] at *
    split at hr
    · rename_i e
      obtain ⟨K, hK⟩ := ih e
      exact ⟨K, fun k hk => by rw [hK k hk]; exact hr⟩
    · rename_i hne
      obtain ⟨K, hK⟩ := ih hr
      refine ⟨K, fun k hk => ?_⟩
      rw [hK k hk]
      split
      · rename_i e; exact absurd (hr.trans e) (by intro hh; exact hne _ _ hh)
      · rfl
  | loop x ih =>
    intro bid s r hr
    simp only [acode, codeE] at *
    obtain ⟨n, hn⟩ := loopE_iff.1 hr
    have key : ∀ n s r, aloop (liveAt (cfg f).live bid) (codeE P cfg (ev P cfg ext) f bid x) n s = some r → ∃ K, ∀ k, K ≤ k → aloop (liveAt (cfg f).live bid) (acode P cfg (acall P cfg ext k) k f bid x) n s = some r := by
      intro n
      induction n with
      | zero => intro s r h; simp [aloop] at h
      | succ n ihn =>
        intro s r h
        simp only [aloop] at *
        split at h
        · cases h
        · split at h
          · rename_i e
            obtain ⟨K, hK⟩ := ih e
            obtain ⟨K', hK'⟩ := ihn _ _ h
            exact ⟨max K K', fun k hk => by rw [hK k (by omega)]; exact hK' k (by omega)⟩
          · rename_i hne
            obtain ⟨K, hK⟩ := ih h
            refine ⟨K, fun k hk => ?_⟩
            rw [hK k hk]
            split
            · rename_i e; exact absurd (h.trans e) (by intro hh; exact hne _ hh)
            · rfl
    obtain ⟨K, hK⟩ := key n s r hn
    exact ⟨max K n, fun k hk => aloop_mono (fun _ _ h => h) (by omega) (hK k (by omega))⟩
  | exit id => intro bid s r hr; exact ⟨0, fun k _ => by simpa [acode, codeE] using hr⟩
  | ret => intro bid s r hr; exact ⟨0, fun k _ => by simpa [acode, codeE] using hr⟩
  | rangeFunc => intro bid s r hr; simp [codeE] at hr
  | scope x ih => intro bid s r hr; simp only [codeE] at hr; obtain ⟨K, hK⟩ := ih hr; exact ⟨K, fun k hk => by simp only [acode]; exact hK k hk⟩
  | label => intro bid s r hr; exact ⟨0, fun k _ => by simpa [acode, codeE] using hr⟩
  | goto => intro bid s r hr; simp [codeE] at hr
  | refuse => intro bid s r hr; simp [codeE] at hr

theorem adefers_fin : ∀ {l : List ADef} {m : RM} {H : Heap} {r : RM × Heap}, adefers (ev P cfg ext) l m H = some r → ∃ K, ∀ k, K ≤ k → adefers (acall P cfg ext k) l m H = some r := by
  intro l
  induction l with
  | nil => intro m H r hr; exact ⟨0, fun k _ => hr⟩
  | cons d l ih =>
    intro m H r hr
    simp only [adefers] at *
    split at hr
    · rename_i e
      obtain ⟨K, hK⟩ := ev_get e
      obtain ⟨K', hK'⟩ := ih hr
      exact ⟨max K K', fun k hk => by rw [hK k (by omega)]; exact hK' k (by omega)⟩
    · rename_i e
      obtain ⟨K, hK⟩ := ev_get e
      obtain ⟨K', hK'⟩ := ih hr
      exact ⟨max K K', fun k hk => by rw [hK k (by omega)]; exact hK' k (by omega)⟩
    · cases hr

theorem afinish_fin {fn : Func} {s : St} {m : RM} {r : CRes} (hr : afinish P (ev P cfg ext) fn s m = some r) : ∃ K, ∀ k, K ≤ k → afinish P (acall P cfg ext k) fn s m = some r := by
  unfold afinish at *
  split at hr
  · rename_i e
    split at hr
    · rename_i e2; obtain ⟨K, hK⟩ := adefers_fin e2; exact ⟨K, fun k hk => by rw [hK k hk]; exact hr⟩
    · rename_i e2; obtain ⟨K, hK⟩ := adefers_fin e2; exact ⟨K, fun k hk => by rw [hK k hk]; exact hr⟩
    · cases hr
  · exact ⟨0, fun k _ => hr⟩

/-- A call goes by its function's code. -/
theorem ev_body {f : FuncId} {fn : Func} {c : Code} (hx : ext f = none) (hf : P.funcs[f]? = some fn) (hc : fn.body = some c) {args : List AV} {rm : RM} {H : Heap} {r : CRes} (h : bodyE P cfg (ev P cfg ext) f fn c args rm H = some r) :
    ev P cfg ext f args rm H = some (normRes P (cfg f).norm fn.resultTypes.toList (cutRm rm H.length r)) := by
  have key : ∃ K, ∀ k, K ≤ k → abody P cfg (acall P cfg ext k) k f fn c args rm H = some r := by
    unfold bodyE at h
    unfold abody
    split at h
    · rename_i e
      obtain ⟨K, hK⟩ := codeE_fin e
      obtain ⟨K', hK'⟩ := afinish_fin h
      exact ⟨max K K', fun k hk => by rw [hK k (by omega)]; exact hK' k (by omega)⟩
    · rename_i e
      obtain ⟨K, hK⟩ := codeE_fin e
      obtain ⟨K', hK'⟩ := afinish_fin h
      exact ⟨max K K', fun k hk => by rw [hK k (by omega)]; exact hK' k (by omega)⟩
    · rename_i e
      obtain ⟨K, hK⟩ := codeE_fin e
      obtain ⟨K', hK'⟩ := afinish_fin h
      exact ⟨max K K', fun k hk => by rw [hK k (by omega)]; exact hK' k (by omega)⟩
    · cases h
  obtain ⟨K, hK⟩ := key
  exact ev_iff.2 ⟨K + 1, by rw [acall]; simp only [hx, hf, hc, hK K (Nat.le_refl _), Option.map_some]⟩

theorem cutRes_same {n : Nat} {r : CRes} (h : r.H.length = n) : cutRes n r = r := by
  unfold cutRes
  have : Nat.ble r.H.length n = true := by rw [Nat.ble_eq, h]; exact Nat.le_refl _
  rw [this]

theorem ev_ext {f : FuncId} {e : List AV → Heap → Option (Out × Heap)} (hx : ext f = some e) {args : List AV} {H H' : Heap} {out : Out} (h : e args H = some (out, H')) : ev P cfg ext f args .none H = some ⟨out, .none, H'⟩ :=
  ev_iff.2 ⟨1, by rw [acall]; simp only [hx, h]⟩

theorem loopE_step {live : Option Nat} {body : St → Option (AX × St)} {s s0 s1 : St} {r : AX × St} (hm : maskSt live s = some s0) (hb : body s0 = some (.normal, s1)) (h : loopE live body s1 = some r) : loopE live body s = some r := by
  obtain ⟨n, hn⟩ := loopE_iff.1 h
  exact loopE_iff.2 ⟨n + 1, by simp only [aloop, hm, hb]; exact hn⟩

theorem loopE_end {live : Option Nat} {body : St → Option (AX × St)} {s s0 s1 : St} {x : AX} (hm : maskSt live s = some s0) (hb : body s0 = some (x, s1)) (hx : x ≠ .normal) : loopE live body s = some (x, s1) := by
  refine loopE_iff.2 ⟨1, ?_⟩
  simp only [aloop, hm, hb]
  split
  · rename_i e; cases e; exact absurd rfl hx
  · rfl
end
end Go.Eng
end

section
/-
  THE ENGINE, part 18b: what comes in: a world's cells as memory that nobody writes.
-/
set_option linter.unusedVariables false
set_option linter.unusedSimpArgs false
namespace Go.Eng

def memOf (w : World) : Mem := fun b o => match w.cell? ⟨b, o, none⟩ with
  | some v => if v.oneCell' = true then some v else none
  | none => none

theorem memOf_ok (w : World) : ImmOk (memOf w) w := by
  intro b o v h
  unfold memOf at h
  split at h
  · rename_i e
    split at h
    · rename_i h1
      simp only [Option.some.injEq] at h; subst h
      exact ⟨e, h1⟩
    · cases h
  · cases h

theorem memOf_at {w : World} {b o : Nat} {v : Value} (h : w.cell? ⟨b, o, none⟩ = some v) (h1 : v.oneCell' = true) : memOf w b o = some v := by
  unfold memOf; simp only [h, h1, if_true]

theorem hinv0 (w : World) : HInv (memOf w) [] [] w [] := ⟨memOf_ok w, rfl, rfl, fun id b ws cs h => by simp at h⟩

end Go.Eng
end

section
/-
  THE ENGINE, part 24: from what the interpreter says of a function to what the model's call does.
-/
set_option linter.unusedVariables false
set_option linter.unusedSimpArgs false
namespace Go.Eng
open Go.RowKit

theorem tcs_noOwn (b : Nat) : ∀ (vs : List Value) (as : List AV), (∀ a ∈ as, NoOwn a) → tcs b vs as = 0
  | [], _, _ => by simp [tcs, zsum]
  | _ :: _, [], _ => by simp [tcs, zsum]
  | v :: vs, a :: as, h => by
    have h1 := (h a (by simp)).tc b v
    have h2 := tcs_noOwn b vs as (fun x hx => h x (by simp [hx]))
    simp only [tcs, zsum] at h2 ⊢
    omega

theorem ev_calls {P : Program} {cfg : FuncId → FCfg} {ext : Ext} {I0 : Mem} {f : FuncId} {args : List AV} {W : World} {cargs : Array Value} {v : Value} {m : RM} {H' : Heap} (hmix : P.follows .mixedOrders = true)
    (hng : (P.funcs.toList.all fun fn => !(fn.name == "runtime.NumGoroutine")) = true) (h : ev P cfg ext f args .none [] = some ⟨.ret (.val v), m, H'⟩) (hext : ExtSound P I0 ext) (hextb : ∀ (f : FuncId) e, ext f = some e → ∃ (fn : Func) (c : Code), P.funcs[f]? = some fn ∧ fn.body = some c) (hI : LeM I0 (memOf W))
    (hr : RepL (memOf W) [] cargs.toList args) (hno : ∀ a ∈ args, NoOwn a) : Calls P f cargs W fun e W' => e = .returned v ∧ Below W.heap.size W W' := by
  obtain ⟨k, hk⟩ := ev_iff.1 h
  have hng' : ∀ (f : FuncId) (fn : Func), P.funcs[f]? = some fn → (fn.name == "runtime.NumGoroutine") = false := by
    intro f fn hf
    have := List.all_eq_true.1 hng fn (Array.mem_toList_iff.2 (Array.mem_of_getElem? hf))
    simpa using this
  have h0 : ∀ b, argTok [] [] [] cargs.toList args b = 0 := by
    intro b
    unfold argTok
    rw [tcs_noOwn b _ _ hno]
    first | done | simp [tcss, zsum]
  obtain ⟨_, hc⟩ := acall_sound (cfg := cfg) hmix hng' hext hextb k f args .none [] _ hk (memOf W) [] [] W cargs.toList hI (hinv0 W) hr
    (fun i v a _ ha => (hno a (List.mem_of_getElem? ha)).spare W v) (fun b => by rw [h0 b]; omega)
  simp only at hc
  refine hc.mono fun e W' ⟨J, ν, HV', hp⟩ => ?_
  obtain ⟨v', rfl, hv, _⟩ := hp.outr
  have hvv : v' = v := by cases hv; rfl
  refine ⟨by rw [hvv], hp.eff.os, hp.eff.tape, hp.eff.output, hp.eff.size, fun k hk => hp.eff.keep k hk fun h => ?_⟩
  rw [h0 k] at h; omega
end Go.Eng
end

section
/-
  THE ENGINE, part 25: pointers under other names: values.
-/
set_option linter.unusedVariables false
set_option linter.unusedSimpArgs false
namespace Go.Eng

mutual
def AV.ren (ρ : Nat → Nat) : AV → AV
  | .any => .any
  | .val v => .val v
  | .slice sz rows own => .slice sz (renss ρ rows) own
  | .ref cs => .ref (rens ρ cs)
  | .ptr id off => .ptr (ρ id) off
  | .lp t g o => .lp t g o
  | .func fn a b => .func fn (rens ρ a) (rens ρ b)
  | .iface t v => .iface t (v.ren ρ)
  | .agg cs => .agg (rens ρ cs)
  | .tuple vs => .tuple (rens ρ vs)
def rens (ρ : Nat → Nat) : List AV → List AV
  | [] => []
  | a :: l => a.ren ρ :: rens ρ l
def renss (ρ : Nat → Nat) : List (List AV) → List (List AV)
  | [] => []
  | a :: l => rens ρ a :: renss ρ l
end

section
variable {ρ : Nat → Nat}
theorem rens_map : ∀ l : List AV, rens ρ l = l.map (AV.ren ρ)
  | [] => rfl
  | a :: l => by rw [rens, rens_map l, List.map_cons]
theorem renss_map : ∀ l : List (List AV), renss ρ l = l.map (List.map (AV.ren ρ))
  | [] => rfl
  | a :: l => by rw [renss, renss_map l, List.map_cons, rens_map]

abbrev mr (ρ : Nat → Nat) (l : List AV) : List AV := l.map (AV.ren ρ)
abbrev mrr (ρ : Nat → Nat) (l : List (List AV)) : List (List AV) := l.map (List.map (AV.ren ρ))

@[simp] theorem ren_any : AV.ren ρ .any = .any := rfl
@[simp] theorem ren_val (v : Value) : AV.ren ρ (.val v) = .val v := rfl
@[simp] theorem ren_slice (sz : Nat) (rows : List (List AV)) (own : Own) : AV.ren ρ (.slice sz rows own) = .slice sz (rows.map (List.map (AV.ren ρ))) own := by rw [AV.ren, renss_map]
@[simp] theorem ren_ref (cs : List AV) : AV.ren ρ (.ref cs) = .ref (cs.map (AV.ren ρ)) := by rw [AV.ren, rens_map]
@[simp] theorem ren_ptr (id off : Nat) : AV.ren ρ (.ptr id off) = .ptr (ρ id) off := rfl
@[simp] theorem ren_lp (t g o : Nat) : AV.ren ρ (.lp t g o) = .lp t g o := rfl
@[simp] theorem ren_func (fn : Fn) (a b : List AV) : AV.ren ρ (.func fn a b) = .func fn (a.map (AV.ren ρ)) (b.map (AV.ren ρ)) := by rw [AV.ren, rens_map, rens_map]
@[simp] theorem ren_iface (t : TypeId) (v : AV) : AV.ren ρ (.iface t v) = .iface t (v.ren ρ) := rfl
@[simp] theorem ren_agg (cs : List AV) : AV.ren ρ (.agg cs) = .agg (cs.map (AV.ren ρ)) := by rw [AV.ren, rens_map]
@[simp] theorem ren_tuple (cs : List AV) : AV.ren ρ (.tuple cs) = .tuple (cs.map (AV.ren ρ)) := by rw [AV.ren, rens_map]

@[simp] theorem ren_dis (v : AV) : v.dis.ren ρ = (v.ren ρ).dis := by
  cases v with
  | slice sz rows own => cases own <;> simp [AV.dis]
  | _ => simp [AV.dis]

theorem ren_dis_map (l : List AV) : (l.map AV.dis).map (AV.ren ρ) = (l.map (AV.ren ρ)).map AV.dis := by
  simp only [List.map_map]; exact List.map_congr_left fun a _ => ren_dis a

theorem ren_cells (v : AV) : (v.ren ρ).cells = v.cells.map (List.map (AV.ren ρ)) := by
  cases v with
  | val v => cases v <;> simp [AV.cells]
  | _ => simp [AV.cells]

theorem ren_cells' (v : AV) : (v.ren ρ).cells.map (List.map AV.dis) = (v.cells.map (List.map AV.dis)).map (List.map (AV.ren ρ)) := by
  rw [ren_cells]
  cases v.cells with
  | none => rfl
  | some l => simp only [Option.map_some, ren_dis_map]

theorem ren_scells (v : AV) : (v.ren ρ).scells = v.scells.map (List.map (AV.ren ρ)) := by
  cases v with
  | slice sz rows own => simp [AV.scells]
  | val v => simp only [ren_val, AV.scells]; exact ren_cells' (.val v)
  | any => simp only [AV.scells]; exact ren_cells' .any
  | ref cs => have := ren_cells' (ρ := ρ) (.ref cs); simp only [ren_ref] at this ⊢; simpa only [AV.scells] using this
  | ptr a b => have := ren_cells' (ρ := ρ) (.ptr a b); simp only [ren_ptr] at this ⊢; simpa only [AV.scells] using this
  | lp a b c => have := ren_cells' (ρ := ρ) (.lp a b c); simp only [ren_lp] at this ⊢; simpa only [AV.scells] using this
  | func a b c => have := ren_cells' (ρ := ρ) (.func a b c); simp only [ren_func] at this ⊢; simpa only [AV.scells] using this
  | iface a b => have := ren_cells' (ρ := ρ) (.iface a b); simp only [ren_iface] at this ⊢; simpa only [AV.scells] using this
  | agg a => have := ren_cells' (ρ := ρ) (.agg a); simp only [ren_agg] at this ⊢; simpa only [AV.scells] using this
  | tuple a => have := ren_cells' (ρ := ρ) (.tuple a); simp only [ren_tuple] at this ⊢; simpa only [AV.scells] using this

@[simp] theorem ren_cellsVal : ∀ l : List AV, cellsVal (l.map (AV.ren ρ)) = cellsVal l
  | [] => rfl
  | a :: l => by cases a <;> simp [cellsVal, ren_cellsVal l]

@[simp] theorem ren_toVal (v : AV) : (v.ren ρ).toVal = v.toVal := by
  cases v with
  | iface t v => cases v <;> simp [AV.toVal]
  | _ => simp [AV.toVal]

@[simp] theorem ren_isLp (v : AV) : (v.ren ρ).isLp = v.isLp := by cases v <;> simp [AV.isLp]

@[simp] theorem ren_anyLp (l : List AV) : (l.map (AV.ren ρ)).any AV.isLp = l.any AV.isLp := by
  induction l with
  | nil => rfl
  | cons a l ih => simp only [List.map_cons, List.any_cons, ren_isLp, ih]

@[simp] theorem ren_vals (l : List Value) : (l.map AV.val).map (AV.ren ρ) = l.map AV.val := by
  simp only [List.map_map]; exact List.map_congr_left fun a _ => rfl

@[simp] theorem ren_ofCell (v : Value) : (ofCell v).ren ρ = ofCell v := by
  unfold ofCell; split <;> simp only [ren_slice, ren_func, ren_val, ren_vals, List.map_nil]

@[simp] theorem ren_ofCells (l : List Value) : (l.map ofCell).map (AV.ren ρ) = l.map ofCell := by
  simp only [List.map_map]; exact List.map_congr_left fun a _ => ren_ofCell a

@[simp] theorem ren_ofVal (v : Value) : (ofVal v).ren ρ = ofVal v := by
  unfold ofVal
  split
  · split
    · simp only [ren_agg, ren_ofCells]
    · rfl
  · exact ren_ofCell v

theorem getD_ren (s : List AV) (t : Nat) : (s.map (AV.ren ρ)).getD t .any = (s.getD t .any).ren ρ := by
  simp only [List.getD_eq_getElem?_getD, List.getElem?_map]
  cases s[t]? <;> rfl

theorem ren_aeval (s : List AV) (x : Operand) : aeval (s.map (AV.ren ρ)) x = (aeval s x).ren ρ := by
  cases x with
  | tmp t => exact getD_ren s t
  | const v => simp [aeval]
  | _ => simp [aeval]

theorem ren_map_getElem? (cs : List AV) (i : Nat) : (cs.map (AV.ren ρ))[i]? = (cs[i]?).map (AV.ren ρ) := List.getElem?_map ..

theorem ren_writeCells : ∀ (new cs : List AV) (off : Nat), writeCells (cs.map (AV.ren ρ)) off (new.map (AV.ren ρ)) = (writeCells cs off new).map (AV.ren ρ)
  | [], cs, off => rfl
  | v :: r, cs, off => by simp only [List.map_cons, writeCells, ← List.map_set, ren_writeCells r]

section
variable {P : Program}

theorem ren_zeroCells {t : TypeId} : (zeroCells P t).map (List.map (AV.ren ρ)) = zeroCells P t := by
  unfold zeroCells
  split
  · split
    · simp only [Option.map_some, ren_ofCells]
    · rfl
  · rfl

theorem ren_readCells (t : TypeId) (cs : List AV) (off : Nat) : readCells P t (cs.map (AV.ren ρ)) off = (readCells P t cs off).map (AV.ren ρ) := by
  unfold readCells
  split
  · split
    · rename_i n hn
      simp only [List.length_map]
      split
      · simp only [Option.map_some, ren_agg, Option.some.injEq, AV.agg.injEq, ← List.map_drop, ← List.map_take, ren_dis_map]
      · rfl
    · rfl
  · rw [List.getElem?_map]
    cases cs[off]? <;> simp
  · rfl

def renP (ρ : Nat → Nat) (ps : List (Nat × AV)) : List (Nat × AV) := ps.map fun p => (p.1, p.2.ren ρ)

theorem ren_fillA (t : TypeId) : ∀ (ps : List (Nat × AV)) (cells : List AV), fillA P t (cells.map (AV.ren ρ)) (renP ρ ps) = (fillA P t cells ps).map (List.map (AV.ren ρ))
  | [], cells => rfl
  | (i, v) :: rest, cells => by
    simp only [renP, List.map_cons, fillA, ren_cells]
    cases place? P t i with
    | none => rfl
    | some p =>
      obtain ⟨off, n⟩ := p
      cases v.cells with
      | none => rfl
      | some cs =>
        simp only [Option.map_some, List.length_map]
        split
        · rw [← ren_dis_map, ren_writeCells]; exact ren_fillA t rest _
        · rfl

theorem ren_zipParts {α : Type} : ∀ (ps : List (Nat × α)) (vs : List AV), zipParts ps (vs.map (AV.ren ρ)) = renP ρ (zipParts ps vs)
  | [], vs => by cases vs <;> rfl
  | (i, a) :: r, [] => rfl
  | (i, a) :: r, v :: vs => by simp only [List.map_cons, zipParts, ren_zipParts r vs]; rfl

theorem ren_chunks (sz : Nat) : ∀ (n : Nat) (l : List AV), chunks sz n (l.map (AV.ren ρ)) = (chunks sz n l).map (List.map (AV.ren ρ))
  | 0, l => rfl
  | n + 1, l => by simp only [chunks, List.map_cons, ← List.map_take, ← List.map_drop, ren_chunks sz n]

theorem ren_repeatCells (l : List AV) (n : Nat) (h : l.map (AV.ren ρ) = l) : (repeatCells l n).map (AV.ren ρ) = repeatCells l n := by
  induction n with
  | zero => rfl
  | succ n ih =>
    simp only [repeatCells, List.replicate_succ, List.flatten_cons, List.map_append, h] at ih ⊢
    rw [ih]

theorem ren_isPtrNil (t : TypeId) (a b : AV) : isPtrNil P t (a.ren ρ) (b.ren ρ) = isPtrNil P t a b := by
  unfold isPtrNil
  cases P.underlying t with
  | none => rfl
  | some d =>
    cases a with
    | val v => cases b with
      | val u => rfl
      | _ => cases d <;> first | rfl | (cases v <;> first | rfl | (rename_i p; cases p <;> rfl))
    | _ => cases b with
      | val v => cases d <;> first | rfl | (cases v <;> first | rfl | (rename_i p; cases p <;> rfl))
      | _ => cases d <;> rfl

theorem ren_abin (op : BinOp) (t : TypeId) (x y : Operand) (a b : AV) : abin P op t x y (a.ren ρ) (b.ren ρ) = (abin P op t x y a b).map (AV.ren ρ) := by
  unfold abin
  simp only [ren_toVal, ren_isPtrNil]
  split
  · rw [Option.map_map]; congr 1; funext v; simp
  · split
    · cases isPtrNil P t a b <;> rfl
    · cases isPtrNil P t a b <;> rfl
    · rfl

theorem ren_bytesOfRows : ∀ l : List (List AV), bytesOfRows (l.map (List.map (AV.ren ρ))) = bytesOfRows l
  | [] => rfl
  | r :: l => by
    cases r with
    | nil => simp [bytesOfRows]
    | cons a r => cases r with
      | nil => cases a with
        | val v => cases v with
          | int k n => cases k <;> simp [bytesOfRows, ren_bytesOfRows l]
          | _ => simp [bytesOfRows]
        | _ => simp [bytesOfRows]
      | cons b r => simp [bytesOfRows]

theorem ren_aconvert (src dst : TypeId) (a : AV) : aconvert P src dst (a.ren ρ) = (aconvert P src dst a).map (AV.ren ρ) := by
  cases a with
  | val v => simp only [ren_val, aconvert, Option.map_map]; congr 1; funext v; simp
  | slice sz rows own =>
    simp only [ren_slice, aconvert, ren_bytesOfRows]
    split
    · split
      · rfl
      · rfl
    · rfl
  | _ => simp [aconvert]

theorem ren_bound (x : Option AV) (d m : Nat) : bound? (x.map (AV.ren ρ)) d m = bound? x d m := by
  cases x with
  | none => rfl
  | some a => cases a <;> simp [bound?]

theorem ren_aslice (t : TypeId) (a : AV) (lo hi mx : Option AV) : aslice P t (a.ren ρ) (lo.map (AV.ren ρ)) (hi.map (AV.ren ρ)) (mx.map (AV.ren ρ)) = (aslice P t a lo hi mx).map (AV.ren ρ) := by
  unfold aslice
  split
  · rename_i s hu ha
    have : a = .val (.string s) := by cases a <;> simp at ha; subst ha; rfl
    subst this
    simp only [hu, ren_bound]
    cases mx with
    | some m => rfl
    | none =>
      simp only [Option.map_none]
      cases bound? hi s.size s.size with
      | none => rfl
      | some h => simp only; cases bound? lo 0 h <;> rfl
  · rename_i e sz rows own hu ha
    have : ∃ rows', a = .slice sz rows' own ∧ rows = rows'.map (List.map (AV.ren ρ)) := by
      cases a with
      | slice sz' rows' own' => simp only [ren_slice, AV.slice.injEq] at ha; exact ⟨rows', by rw [ha.1, ha.2.2], ha.2.1.symm⟩
      | _ => simp at ha
    obtain ⟨rows', rfl, rfl⟩ := this
    simp only [hu, List.map_eq_nil_iff, List.length_map, ren_bound]
    cases size? P e with
    | none => rfl
    | some n =>
      simp only
      split
      · cases mx with
        | none =>
          simp only [Option.map_none]
          cases bound? hi rows'.length rows'.length with
          | none => rfl
          | some h =>
            simp only
            cases bound? lo 0 h with
            | none => rfl
            | some l => simp only [Option.map_some, ren_slice, List.map_take, List.map_drop]
        | some m =>
          simp only [Option.map_some]
          cases hi with
          | none => rfl
          | some hi =>
            have h1 := ren_bound (ρ := ρ) (some m) 0 rows'.length
            simp only [Option.map_some] at h1 ⊢
            rw [h1]
            cases bound? (some m) 0 rows'.length with
            | none => rfl
            | some m =>
              have h2 := ren_bound (ρ := ρ) (some hi) 0 m
              simp only [Option.map_some] at h2 ⊢
              rw [h2]
              cases bound? (some hi) 0 m with
              | none => rfl
              | some h =>
                simp only
                cases bound? lo 0 h with
                | none => rfl
                | some l => simp only [Option.map_some, ren_slice, List.map_take, List.map_drop]
      · rfl
  · rename_i h1 h2
    cases hu : P.underlying t with
    | none => rfl
    | some d => cases d with
      | string => cases a with
        | val v => cases v with
          | string s => exact absurd rfl (h1 s hu)
          | _ => rfl
        | _ => rfl
      | slice e => cases a with
        | slice sz rows own => exact absurd (ren_slice ..) (h2 e _ _ _ hu)
        | _ => rfl
      | _ => rfl

theorem ren_afieldAddr (t : TypeId) (a : AV) (i : Nat) : afieldAddr P t (a.ren ρ) i = (afieldAddr P t a i).map (AV.ren ρ) := by
  unfold afieldAddr
  split
  · split
    · split
      · cases a with
        | ref cs =>
          simp only [ren_ref, List.length_map]
          split
          · simp
          · rfl
        | _ => simp
      · rfl
    · rfl
  · rfl

theorem ren_afield (t : TypeId) (a : AV) (i : Nat) : afield P t (a.ren ρ) i = (afield P t a i).map (AV.ren ρ) := by
  unfold afield partA
  cases P.underlying t with
  | none => simp
  | some d =>
    cases d with
    | struct fs =>
      cases a with
      | agg cs =>
        simp only [ren_agg]
        split
        · exact ren_readCells _ _ _
        · rfl
      | _ => simp
    | _ => simp

theorem ren_aindexAddr (t : TypeId) (a ix : AV) : aindexAddr P t (a.ren ρ) (ix.ren ρ) = (aindexAddr P t a ix).map (AV.ren ρ) := by
  unfold aindexAddr
  cases ix with
  | val v =>
    simp only [ren_val]
    cases P.underlying t with
    | none => rfl
    | some d =>
      cases d with
      | slice e =>
        cases v with
        | int k i =>
          cases a with
          | slice sz rows own =>
            simp only [ren_slice]
            split
            · rw [List.getElem?_map]
              cases rows[i.toNat]? with
              | none => rfl
              | some r =>
                simp only [Option.map_some]
                split
                · simp
                · rfl
            · rfl
          | _ => simp
        | _ => rfl
      | array len e =>
        cases v with
        | int k i =>
          simp only
          split
          · split
            · cases a with
              | ref cs =>
                simp only [ren_ref, List.length_map]
                split
                · simp
                · rfl
              | _ => simp
            · rfl
          · rfl
        | _ => rfl
      | _ => rfl
  | _ => cases P.underlying t with
    | none => simp
    | some d => cases d <;> simp

theorem ren_aindex (t : TypeId) (a ix : AV) : aindex P t (a.ren ρ) (ix.ren ρ) = (aindex P t a ix).map (AV.ren ρ) := by
  unfold aindex partA
  cases P.underlying t with
  | none => simp
  | some d =>
    cases d with
    | array len e =>
      cases a with
      | agg cs =>
        cases ix with
        | val v =>
          cases v with
          | int k i =>
            simp only [ren_agg, ren_val]
            split
            · split
              · exact ren_readCells _ _ _
              · rfl
            · rfl
          | _ => simp
        | _ => simp
      | _ => simp
    | string =>
      cases a with
      | val u =>
        cases u with
        | string s =>
          cases ix with
          | val v =>
            cases v with
            | int k i =>
              simp only [ren_val]
              split
              · cases s[i.toNat]? <;> rfl
              · rfl
            | _ => simp
          | _ => simp
        | _ => simp
      | _ => simp
    | _ => simp

theorem ren_atypeAssert (a : AV) (t : TypeId) (ok : Bool) : atypeAssert P (a.ren ρ) t ok = (atypeAssert P a t ok).map (AV.ren ρ) := by
  have fails : (if ok = true then match (P.info? t).bind (·.zero) with
      | some z => some (AV.tuple [ofVal z, .val (.bool false)])
      | none => none
    else none) = (if ok = true then match (P.info? t).bind (·.zero) with
      | some z => some (AV.tuple [ofVal z, .val (.bool false)])
      | none => none
    else none).map (AV.ren ρ) := by
    split
    · split
      · simp
      · rfl
    · rfl
  unfold atypeAssert
  simp only
  split
  · rfl
  · rfl
  · cases a with
    | iface u v =>
      simp only [ren_iface]
      split
      · split <;> simp
      · exact fails
    | val v => cases v <;> simp only [ren_val] <;> first | rfl | exact fails
    | _ => simp

theorem ren_alen (t : TypeId) (a : AV) : alen P t (a.ren ρ) = (alen P t a).map (AV.ren ρ) := by
  unfold alen
  cases P.underlying t with
  | none => simp
  | some d => cases d with
    | slice e => cases a <;> simp
    | string => cases a with
      | val v => cases v <;> simp
      | _ => simp
    | _ => simp

theorem ren_newRows (b : AV) : newRows (b.ren ρ) = (newRows b).map fun p => (p.1, p.2.map (List.map (AV.ren ρ))) := by
  cases b with
  | val v =>
    cases v with
    | string s =>
      simp only [ren_val, newRows, Option.map_some, Option.some.injEq, Prod.mk.injEq, List.map_map, true_and]
      exact List.map_congr_left fun a _ => rfl
    | _ => simp [newRows]
  | _ => simp [newRows]

theorem ren_aappend (ts : Array TypeId) (a b : AV) : aappend P ts (a.ren ρ) (b.ren ρ) = (aappend P ts a b).map (AV.ren ρ) := by
  unfold aappend
  cases ts[0]? with
  | none => rfl
  | some st => cases ts[1]? with
    | none => rfl
    | some xt =>
      simp only
      cases P.underlying st with
      | none => rfl
      | some d => cases d with
        | slice e =>
          cases P.underlying xt with
          | none => rfl
          | some xd =>
            cases xd with
            | int => rfl
            | _ =>
              simp only [ren_newRows]
              cases a with
              | slice sz rows own =>
                cases newRows b with
                | none => simp
                | some p =>
                  obtain ⟨sz', new⟩ := p
                  cases P.info? e with
                  | none => simp
                  | some i =>
                    simp only [ren_slice, Option.map_some, List.map_eq_nil_iff, List.length_map]
                    split
                    · simp
                    · split
                      · simp only [Option.map_some, ren_slice, List.map_append, List.map_map, Option.some.injEq, AV.slice.injEq, true_and, and_true, List.append_cancel_left_eq]
                        exact List.map_congr_left fun r _ => (ren_dis_map r).symm
                      · rfl
              | _ => simp
        | _ => rfl

theorem ren_amakeSlice (t : TypeId) (l c : AV) : amakeSlice P t (l.ren ρ) (c.ren ρ) = (amakeSlice P t l c).map (AV.ren ρ) := by
  unfold amakeSlice
  cases P.underlying t with
  | none => simp
  | some d => cases d with
    | slice e =>
      cases l with
      | val v => cases v with
        | int k l => cases c with
          | val v => cases v with
            | int k c =>
              simp only [ren_val]
              split
              · split
                · split
                  · simp only [Option.map_some, ren_slice, List.map_replicate, ren_ofCells]
                  · rfl
                · rfl
              · rfl
            | _ => simp
          | _ => simp
        | _ => simp
      | _ => simp
    | _ => simp

theorem ren_allVals : ∀ l : List AV, allVals (l.map (AV.ren ρ)) = allVals l
  | [] => rfl
  | a :: l => by simp only [List.map_cons, allVals, ren_toVal, ren_allVals l]

theorem ren_abuiltin (o : Oper) (b : Builtin) (ts : Array TypeId) (vs : List AV) : abuiltin P o b ts (vs.map (AV.ren ρ)) = (abuiltin P o b ts vs).map (AV.ren ρ) := by
  have maxmin : ∀ (g : Array Value → Sem Value) (vs : List AV), (match allVals (vs.map (AV.ren ρ)) with
      | some l => (semVal P (g l.toArray)).map ofVal
      | none => none) = (match allVals vs with
      | some l => (semVal P (g l.toArray)).map ofVal
      | none => none).map (AV.ren ρ) := by
    intro g vs
    rw [ren_allVals]
    cases allVals vs with
    | none => rfl
    | some l => simp only [Option.map_map]; congr 1; funext v; simp
  cases b with
  | len =>
    match vs with
    | [x] =>
      simp only [List.map_cons, List.map_nil, abuiltin]
      cases ts[0]? with
      | none => rfl
      | some t => exact ren_alen t x
    | [] => rfl
    | _ :: _ :: _ => rfl
  | append =>
    match vs with
    | [x, y] => simp only [List.map_cons, List.map_nil, abuiltin]; exact ren_aappend ts x y
    | [] => rfl
    | [_] => rfl
    | _ :: _ :: _ :: _ => rfl
  | max => simp only [abuiltin]; exact maxmin (fun l => Builtin.max_ ts o.type l) vs
  | min => simp only [abuiltin]; exact maxmin (fun l => Builtin.min_ ts o.type l) vs
  | _ => rfl

theorem ren_abuild (t : TypeId) (ps : List (Nat × AV)) : abuild P t (renP ρ ps) = (abuild P t ps).map (AV.ren ρ) := by
  have key : ∀ z, zeroCells P t = some z → (fillA P t z (renP ρ ps)).map AV.agg = ((fillA P t z ps).map AV.agg).map (AV.ren ρ) := by
    intro z hz
    have h := ren_zeroCells (P := P) (ρ := ρ) (t := t)
    rw [hz] at h
    simp only [Option.map_some, Option.some.injEq] at h
    have := ren_fillA (P := P) (ρ := ρ) t ps z
    rw [h] at this
    rw [this]
    cases fillA P t z ps <;> simp
  unfold abuild
  split
  · split
    · split
      · rename_i z hz; exact key z hz
      · rfl
    · rfl
  · split
    · rename_i z _ hz _; exact key z hz
    · rfl
  · rfl

theorem ren_abuildSlice (t : TypeId) (n : Nat) (ps : List (Nat × AV)) : abuildSlice P t n (renP ρ ps) = (abuildSlice P t n ps).map (AV.ren ρ) := by
  unfold abuildSlice
  split
  · split
    · split
      · split
        · rename_i i _ z _ _
          have h := ren_fillA (P := P) (ρ := ρ) t ps (repeatCells (z.cells.toList.map ofCell) n)
          rw [ren_repeatCells _ _ (ren_ofCells _)] at h
          rw [h]
          cases fillA P t (repeatCells (z.cells.toList.map ofCell) n) ps with
          | none => rfl
          | some cs => simp only [Option.map_some, ren_slice, ren_chunks]
        · rfl
      · rfl
    · rfl
  · rfl

theorem ren_anilCheck (a : AV) : anilCheck (a.ren ρ) = (anilCheck a).map (AV.ren ρ) := by
  cases a with
  | func fn a b => cases fn <;> simp [anilCheck]
  | _ => simp [anilCheck]

theorem ren_amakeInterface (t : TypeId) (a : AV) : amakeInterface P t (a.ren ρ) = (amakeInterface P t a).map (AV.ren ρ) := by
  unfold amakeInterface
  split
  · rfl
  · rfl
  · simp only [ren_isLp]
    split
    · rfl
    · simp

theorem ren_aextract (v : AV) (i : Nat) : aextract (v.ren ρ) i = (aextract v i).map (AV.ren ρ) := by
  cases v with
  | tuple vs =>
    simp only [ren_tuple, aextract, List.getElem?_map]
    cases vs[i]? <;> simp
  | val v => cases v with
    | tuple vs =>
      simp only [ren_val, aextract]
      cases vs[i]? <;> simp
    | _ => simp [aextract]
  | _ => simp [aextract]

theorem ren_newCells (o : Oper) (vs : List AV) : newCells P o (vs.map (AV.ren ρ)) = (newCells P o vs).map (List.map (AV.ren ρ)) := by
  unfold newCells
  cases o.op with
  | alloc e =>
    cases vs with
    | nil => simp only [List.map_nil]; exact ren_zeroCells.symm
    | cons a vs => rfl
  | box t x =>
    match vs with
    | [v] => simp only [List.map_cons, List.map_nil]; exact ren_cells' v
    | [] => rfl
    | _ :: _ :: _ => rfl
  | _ => rfl
end
end
end Go.Eng
end

section
/-
  THE ENGINE, part 26: pointers under other names: what a function does in a heap it does in a greater one, whatever lies beside.
-/
set_option linter.unusedVariables false
set_option linter.unusedSimpArgs false
namespace Go.Eng

/-- A heap of n blocks within one of N: where its blocks lie; what lies beside holds nothing from beyond. -/
structure Fr (ρ : Nat → Nat) (n N : Nat) (F : Heap) : Prop where
  lo : ∀ i, i < n → ρ i < N
  hi : ∀ i, n ≤ i → ρ i = i - n + N
  inj : ∀ i j, i < n → j < n → ρ i = ρ j → i = j
  low : ∀ j cs, F[j]? = some cs → j < N → (∀ i, i < n → ρ i ≠ j) → lows N cs = true

structure HR (ρ : Nat → Nat) (n N : Nat) (F H K : Heap) : Prop where
  le : n ≤ H.length
  len : K.length = H.length - n + N
  im : ∀ i, K[ρ i]? = (H[i]?).map (List.map (AV.ren ρ))
  off : ∀ j, j < N → (∀ i, i < n → ρ i ≠ j) → K[j]? = F[j]?

section
variable {ρ : Nat → Nat} {n N : Nat} {F : Heap}

theorem Fr.inj' (h : Fr ρ n N F) {i j : Nat} (e : ρ i = ρ j) : i = j := by
  rcases Nat.lt_or_ge i n with hi | hi
  · rcases Nat.lt_or_ge j n with hj | hj
    · exact h.inj i j hi hj e
    · have := h.lo i hi; have := h.hi j hj; omega
  · rcases Nat.lt_or_ge j n with hj | hj
    · have := h.lo j hj; have := h.hi i hi; omega
    · have := h.hi i hi; have := h.hi j hj; omega

theorem HR.set (hf : Fr ρ n N F) {H K : Heap} (h : HR ρ n N F H K) (id : Nat) (cs : List AV) : HR ρ n N F (H.set id cs) (K.set (ρ id) (cs.map (AV.ren ρ))) := by
  refine ⟨by simpa using h.le, by simpa using h.len, ?_, ?_⟩
  · intro i
    simp only [List.getElem?_set]
    by_cases e : id = i
    · subst e
      simp only [if_true]
      have h1 := h.im id
      by_cases hl : id < H.length
      · rw [if_pos hl, if_pos]
        · rfl
        · rw [List.getElem?_eq_getElem hl] at h1
          exact (List.getElem?_eq_some_iff.1 h1).1
      · rw [if_neg hl, if_neg]
        · rfl
        · have h2 : H[id]? = none := List.getElem?_eq_none (Nat.not_lt.1 hl)
          rw [h2] at h1
          exact Nat.not_lt.2 (List.getElem?_eq_none_iff.1 h1)
    · rw [if_neg (fun h => e (hf.inj' h)), if_neg e]
      exact h.im i
  · intro j hj hn
    rw [List.getElem?_set]
    by_cases e : ρ id = j
    · by_cases hid : id < n
      · exact absurd e (hn id hid)
      · have := hf.hi id (by omega); omega
    · rw [if_neg e]; exact h.off j hj hn

theorem HR.push (hf : Fr ρ n N F) {H K : Heap} (h : HR ρ n N F H K) (cs : List AV) : HR ρ n N F (H ++ [cs]) (K ++ [cs.map (AV.ren ρ)]) ∧ ρ H.length = K.length := by
  have e : ρ H.length = K.length := by rw [hf.hi _ h.le, h.len]
  refine ⟨⟨by have := h.le; simp; omega, by have := h.len; have := h.le; simp; omega, ?_, ?_⟩, e⟩
  · intro i
    rcases Nat.lt_trichotomy i H.length with hi | hi | hi
    · have : ρ i < K.length := by
        have h1 := h.im i
        rw [List.getElem?_eq_getElem hi] at h1
        exact (List.getElem?_eq_some_iff.1 h1).1
      rw [List.getElem?_append_left this, List.getElem?_append_left hi]; exact h.im i
    · subst hi
      rw [e]; simp
    · have h1 := hf.hi i (by have := h.le; omega)
      have h2 := h.len
      have h3 := h.le
      rw [List.getElem?_eq_none (by simp; omega), List.getElem?_eq_none (by simp; omega)]; rfl
  · intro j hj hn
    have := h.len; have := h.le
    rw [List.getElem?_append_left (by omega)]; exact h.off j hj hn

def renRM (ρ : Nat → Nat) : RM → RM
  | .none => .none
  | .returning => .returning
  | .panicking v r => .panicking (v.ren ρ) r
def renOut (ρ : Nat → Nat) : Out → Out
  | .ret v => .ret (v.ren ρ)
  | .panic v => .panic (v.ren ρ)
def renD (ρ : Nat → Nat) (d : ADef) : ADef := ⟨d.f, d.args.map (AV.ren ρ)⟩
def renL (ρ : Nat → Nat) (c : LCell) : LCell := (c.1, c.2.map (AV.ren ρ))

structure GRl (ρ : Nat → Nat) (n N : Nat) (F : Heap) (g g' : G) : Prop where
  H : HR ρ n N F g.H g'.H
  df : g'.defers = g.defers.map (renD ρ)
  rm : g'.rm = renRM ρ g.rm
  bs : n ≤ g.base ∧ g'.base = g.base - n + N

structure SRl (ρ : Nat → Nat) (n N : Nat) (F : Heap) (s s' : St) : Prop where
  t : s'.tmps = s.tmps.map (AV.ren ρ)
  l : s'.lh = s.lh.map (Option.map (renL ρ))
  g : GRl ρ n N F s.g s'.g

structure RRl (ρ : Nat → Nat) (n N : Nat) (F : Heap) (r r' : CRes) : Prop where
  o : r'.out = renOut ρ r.out
  rm : r'.rm = renRM ρ r.rm
  H : HR ρ n N F r.H r'.H

def CallR (ρ : Nat → Nat) (n N : Nat) (F : Heap) (call : CallF) : Prop :=
  ∀ f args rm H r, call f args rm H = some r → ∀ K, HR ρ n N F H K → ∃ r', call f (args.map (AV.ren ρ)) (renRM ρ rm) K = some r' ∧ RRl ρ n N F r r'

variable {P : Program} {cfg : FuncId → FCfg} {call : CallF}

theorem ren_vals' (s : List AV) : ∀ (xs : List Operand) (ms : List Bool), vals (s.map (AV.ren ρ)) xs ms = (vals s xs ms).map (AV.ren ρ)
  | [], ms => by cases ms <;> rfl
  | x :: r, [] => by simp only [vals, List.map_cons, ren_aeval, ren_dis, ren_vals' s r]
  | x :: r, b :: bs => by cases b <;> simp [vals, ren_aeval, ren_vals' s r]

theorem modify_ren (s : List AV) (t : Nat) : (s.map (AV.ren ρ)).modify t AV.dis = (s.modify t AV.dis).map (AV.ren ρ) := by
  apply List.ext_getElem?
  intro i
  simp only [List.getElem?_modify, List.getElem?_map]
  cases s[i]? with
  | none => rfl
  | some a =>
    simp only [Option.map_some, Option.some.injEq]
    split <;> simp

theorem ren_disT : ∀ (xs : List Operand) (ms : List Bool) (s : List AV), disT (s.map (AV.ren ρ)) xs ms = (disT s xs ms).map (AV.ren ρ)
  | [], ms, s => by cases ms <;> rfl
  | x :: r, [], s => by cases x <;> rfl
  | x :: r, b :: bs, s => by
    cases x with
    | tmp t => cases b with
      | true => simp only [disT, modify_ren]; exact ren_disT r bs _
      | false => simp only [disT]; exact ren_disT r bs _
    | _ => cases b <;> (simp only [disT]; exact ren_disT r bs _)

theorem ren_acls (f : FuncId) (o : Oper) (vs : List AV) : acls cfg f o (vs.map (AV.ren ρ)) = acls cfg f o vs := by
  unfold acls
  cases o.op with
  | load t x =>
    match vs with
    | [] => rfl
    | [a] => cases a <;> simp
    | a :: _ :: _ => cases a <;> simp
  | store t x y =>
    match vs with
    | [] => rfl
    | a :: _ => cases a <;> simp
  | _ => rfl

theorem ren_apure (o : Oper) (vs : List AV) : apure P o (vs.map (AV.ren ρ)) = (apure P o vs).map (AV.ren ρ) := by
  unfold apure
  cases ho : o.op with
  | move x => match vs with
    | [] => rfl
    | [a] => rfl
    | _ :: _ :: _ => rfl
  | assign x => match vs with
    | [] => rfl
    | [a] => rfl
    | _ :: _ :: _ => rfl
  | pick c a b => match vs with
    | [c, a, b] =>
      cases c with
      | val v => cases v with
        | bool b => cases b <;> rfl
        | _ => rfl
      | _ => simp
    | [] => rfl
    | [_] => rfl
    | [_, _] => rfl
    | _ :: _ :: _ :: _ :: _ => rfl
  | alloc e =>
    simp only [ren_newCells]
    cases newCells P o vs <;> simp
  | box e v =>
    simp only [ren_newCells]
    cases newCells P o vs <;> simp
  | build t ps =>
    simp only [ren_anyLp]
    split
    · rfl
    · rw [ren_zipParts]; exact ren_abuild _ _
  | buildSlice t m ps =>
    simp only [ren_anyLp]
    split
    · rfl
    · rw [ren_zipParts]; exact ren_abuildSlice _ _ _
  | load t x => match vs with
    | [a] => cases a with
      | ref cs => simp only [List.map_cons, List.map_nil, ren_ref]; exact ren_readCells _ _ _
      | _ => simp
    | [] => rfl
    | a :: _ :: _ => cases a <;> simp
  | nilCheck x => match vs with
    | [a] => exact ren_anilCheck a
    | [] => rfl
    | _ :: _ :: _ => rfl
  | binOp op t x y => match vs with
    | [a, b] => exact ren_abin ..
    | [] => rfl
    | [_] => rfl
    | _ :: _ :: _ :: _ => rfl
  | unOp op t x => match vs with
    | [a] =>
      simp only [List.map_cons, List.map_nil, ren_toVal]
      cases a.toVal with
      | none => rfl
      | some w => simp only [Option.map_map]; congr 1; funext v; simp
    | [] => rfl
    | _ :: _ :: _ => rfl
  | convert a b x => match vs with
    | [v] => exact ren_aconvert ..
    | [] => rfl
    | _ :: _ :: _ => rfl
  | makeInterface t x => match vs with
    | [v] => exact ren_amakeInterface ..
    | [] => rfl
    | _ :: _ :: _ => rfl
  | makeFunc fn a b =>
    simp only [ren_anyLp]
    split
    · rfl
    · simp only [Option.map_some, ren_func, List.map_take, List.map_drop]
  | makeSlice t l c => match vs with
    | [a, b] => exact ren_amakeSlice ..
    | [] => rfl
    | [_] => rfl
    | _ :: _ :: _ :: _ => rfl
  | slice t x l h m => match vs with
    | [] => rfl
    | y :: r =>
      simp only [List.map_cons]
      have e1 : (if l.isSome = true then (r.map (AV.ren ρ)).head? else none) = (if l.isSome = true then r.head? else none).map (AV.ren ρ) := by split <;> simp
      have e2 : (if l.isSome = true then (r.map (AV.ren ρ)).tail else r.map (AV.ren ρ)) = (if l.isSome = true then r.tail else r).map (AV.ren ρ) := by split <;> simp
      rw [e1, e2]
      generalize (if l.isSome = true then r.tail else r) = r1
      generalize (if l.isSome = true then r.head? else none) = lo
      have e3 : (if h.isSome = true then (r1.map (AV.ren ρ)).head? else none) = (if h.isSome = true then r1.head? else none).map (AV.ren ρ) := by split <;> simp
      have e4 : (if h.isSome = true then (r1.map (AV.ren ρ)).tail else r1.map (AV.ren ρ)) = (if h.isSome = true then r1.tail else r1).map (AV.ren ρ) := by split <;> simp
      rw [e3, e4]
      generalize (if h.isSome = true then r1.tail else r1) = r2
      generalize (if h.isSome = true then r1.head? else none) = hi
      have e5 : (if m.isSome = true then (r2.map (AV.ren ρ)).head? else none) = (if m.isSome = true then r2.head? else none).map (AV.ren ρ) := by split <;> simp
      rw [e5]
      generalize (if m.isSome = true then r2.head? else none) = mx
      have e6 : (AV.ren ρ y :: r.map (AV.ren ρ)).any AV.isLp = (y :: r).any AV.isLp := ren_anyLp (y :: r)
      simp only [Option.isSome_map, e6]
      split
      · exact ren_aslice _ _ _ _ _
      · rfl
  | fieldAddr t x i => match vs with
    | [a] => exact ren_afieldAddr ..
    | [] => rfl
    | _ :: _ :: _ => rfl
  | field t x i => match vs with
    | [a] => exact ren_afield ..
    | [] => rfl
    | _ :: _ :: _ => rfl
  | indexAddr t x y => match vs with
    | [a, b] => exact ren_aindexAddr ..
    | [] => rfl
    | [_] => rfl
    | _ :: _ :: _ :: _ => rfl
  | index t x y => match vs with
    | [a, b] => exact ren_aindex ..
    | [] => rfl
    | [_] => rfl
    | _ :: _ :: _ :: _ => rfl
  | typeAssert x a t ok => match vs with
    | [v] => exact ren_atypeAssert ..
    | [] => rfl
    | _ :: _ :: _ => rfl
  | extract x i => match vs with
    | [v] => exact ren_aextract ..
    | [] => rfl
    | _ :: _ :: _ => rfl
  | call c =>
    simp only
    cases c.callee with
    | builtin b => exact ren_abuiltin ..
    | _ => rfl
  | _ => simp

theorem ren_aloc (f : FuncId) (o : Oper) (vs : List AV) (c : Option LCell) :
    aloc P cfg f o (vs.map (AV.ren ρ)) (c.map (renL ρ)) = (aloc P cfg f o vs c).map fun (p : AV × Option LCell) => (p.1.ren ρ, p.2.map (renL ρ)) := by
  have new : (match o.dst, newCells P o (vs.map (AV.ren ρ)) with
      | some t, some cs => match c.map (renL ρ) with
        | none => some (AV.lp t 0 0, some (0, cs))
        | some (g, _) => some (.lp t (g + 1) 0, some (g + 1, cs))
      | _, _ => none) = (match o.dst, newCells P o vs with
      | some t, some cs => match c with
        | none => some (AV.lp t 0 0, some (0, cs))
        | some (g, _) => some (.lp t (g + 1) 0, some (g + 1, cs))
      | _, _ => none).map fun (p : AV × Option LCell) => (p.1.ren ρ, p.2.map (renL ρ)) := by
    rw [ren_newCells]
    cases o.dst with
    | none => rfl
    | some t => cases newCells P o vs with
      | none => rfl
      | some cs => cases c with
        | none => rfl
        | some c => rfl
  unfold aloc
  cases o.op with
  | alloc e => exact new
  | box e v => exact new
  | load t x => match vs with
    | [a] => cases a with
      | lp l g off =>
        cases c with
        | none => rfl
        | some c =>
          obtain ⟨g', cs⟩ := c
          simp only [List.map_cons, List.map_nil, ren_lp, Option.map_some, renL]
          split
          · split
            · rw [List.getElem?_map]
              cases isAgg? P t with
              | none => rfl
              | some b => cases b with
                | true => rfl
                | false => cases cs[off]? with
                  | none => rfl
                  | some v => simp only [Option.map_some, renL, List.map_set, ren_dis]
            · rw [ren_readCells]
              cases readCells P t cs off <;> rfl
          · rfl
      | _ => simp
    | [] => rfl
    | a :: _ :: _ => cases a <;> simp
  | store t x y => match vs with
    | [a, v] => cases a with
      | lp l g off =>
        cases c with
        | none => rfl
        | some c =>
          obtain ⟨g', cs⟩ := c
          simp only [List.map_cons, List.map_nil, ren_lp, Option.map_some, renL, ren_scells]
          cases v.scells with
          | none => rfl
          | some new =>
            simp only [Option.map_some]
            cases size? P t with
            | none => rfl
            | some m =>
              simp only [List.length_map]
              split
              · simp only [Option.map_some, ren_writeCells, ren_val, renL]
              · rfl
      | _ => simp
    | [] => rfl
    | [a] => cases a <;> simp
    | a :: _ :: _ :: _ => cases a <;> simp
  | _ => simp

/-- What two outcomes have in common. -/
inductive GRR (ρ : Nat → Nat) (n N : Nat) (F : Heap) : GR → GR → Prop
  | val (v : AV) {g g' : G} : GRl ρ n N F g g' → GRR ρ n N F (.val v g) (.val (v.ren ρ) g')
  | panic (v : AV) {g g' : G} : GRl ρ n N F g g' → GRR ρ n N F (.panic v g) (.panic (v.ren ρ) g')

theorem acallv_ren (hc : CallR ρ n N F call) {g : FuncId} {args : List AV} {m m' : G} {r : GR} (h : acallv call g args m = some r) (hm : GRl ρ n N F m m') :
    ∃ r', acallv call g (args.map (AV.ren ρ)) m' = some r' ∧ GRR ρ n N F r r' := by
  unfold acallv at *
  rw [ren_anyLp]
  split at h
  · cases h
  · rename_i hl
    rw [if_neg hl]
    split at h
    · rename_i v rm H e
      simp only [Option.some.injEq] at h; subst h
      obtain ⟨⟨o, rm', K⟩, e', h1, h2, h3⟩ := hc _ _ _ _ _ e _ hm.H
      simp only [renOut] at h1; subst h1
      simp only [renRM] at e'
      exact ⟨.val (v.ren ρ) { m' with H := K }, by rw [e'], .val v ⟨h3, hm.df, hm.rm, hm.bs⟩⟩
    · rename_i v rm H e
      simp only [Option.some.injEq] at h; subst h
      obtain ⟨⟨o, rm', K⟩, e', h1, h2, h3⟩ := hc _ _ _ _ _ e _ hm.H
      simp only [renOut] at h1; subst h1
      simp only [renRM] at e'
      exact ⟨.panic (v.ren ρ) { m' with H := K }, by rw [e'], .panic v ⟨h3, hm.df, hm.rm, hm.bs⟩⟩
    · cases h

theorem aglob_ren (hf : Fr ρ n N F) (hc : CallR ρ n N F call) {f : FuncId} {o : Oper} {vs : List AV} {m m' : G} {r : GR} (h : aglob P cfg call f o vs m = some r) (hm : GRl ρ n N F m m') :
    ∃ r', aglob P cfg call f o (vs.map (AV.ren ρ)) m' = some r' ∧ GRR ρ n N F r r' := by
  have new : ∀ r, (match newCells P o vs with
      | some cs => some (GR.val (.ptr m.H.length 0) { m with H := m.H ++ [cs] })
      | none => none) = some r → ∃ r', (match newCells P o (vs.map (AV.ren ρ)) with
      | some cs => some (GR.val (.ptr m'.H.length 0) { m' with H := m'.H ++ [cs] })
      | none => none) = some r' ∧ GRR ρ n N F r r' := by
    intro r h
    rw [ren_newCells]
    cases hn : newCells P o vs with
    | none => rw [hn] at h; cases h
    | some cs =>
      rw [hn] at h
      simp only [Option.some.injEq] at h; subst h
      obtain ⟨h1, h2⟩ := hm.H.push hf cs
      have := GRR.val (ρ := ρ) (n := n) (N := N) (F := F) (.ptr m.H.length 0) (g := { m with H := m.H ++ [cs] }) (g' := { m' with H := m'.H ++ [cs.map (AV.ren ρ)] }) ⟨h1, hm.df, hm.rm, hm.bs⟩
      rw [ren_ptr, h2] at this
      exact ⟨_, rfl, this⟩
  unfold aglob at h ⊢
  cases ho : o.op with
  | alloc e => simp only [ho] at h ⊢; exact new r h
  | box e v => simp only [ho] at h ⊢; exact new r h
  | load t x =>
    simp only [ho] at h ⊢
    match vs with
    | [] => simp at h
    | [a] =>
      cases a with
      | ptr id off =>
        simp only [List.map_cons, List.map_nil, ren_ptr, hm.H.im] at h ⊢
        cases hH : m.H[id]? with
        | none => rw [hH] at h; cases h
        | some cs =>
          rw [hH] at h
          simp only [Option.map_some] at h ⊢
          split at h
          · rename_i hd
            rw [if_pos hd]
            rw [List.getElem?_map]
            cases hag : isAgg? P t with
            | none => rw [hag] at h; cases h
            | some b => cases b with
              | true => rw [hag] at h; cases h
              | false =>
                rw [hag] at h
                cases hcs : cs[off]? with
                | none => rw [hcs] at h; cases h
                | some v =>
                  rw [hcs] at h
                  simp only [Option.some.injEq] at h; subst h
                  refine ⟨_, rfl, .val v ⟨?_, hm.df, hm.rm, hm.bs⟩⟩
                  have := hm.H.set hf id (cs.set off v.dis)
                  rwa [List.map_set, ren_dis] at this
          · rename_i hd
            rw [if_neg hd, ren_readCells]
            cases hrc : readCells P t cs off with
            | none => rw [hrc] at h; cases h
            | some v =>
              rw [hrc] at h
              simp only [Option.map_some, Option.some.injEq] at h; subst h
              exact ⟨_, rfl, .val v hm⟩
      | _ => simp at h
    | a :: _ :: _ => cases a <;> simp at h
  | store t x y =>
    simp only [ho] at h ⊢
    match vs with
    | [] => simp at h
    | [a] => cases a <;> simp at h
    | [a, v] =>
      cases a with
      | ptr id off =>
        simp only [List.map_cons, List.map_nil, ren_ptr, hm.H.im, ren_scells] at h ⊢
        cases hH : m.H[id]? with
        | none => rw [hH] at h; cases h
        | some cs =>
          rw [hH] at h
          cases hsc : v.scells with
          | none => rw [hsc] at h; cases h
          | some new =>
            rw [hsc] at h
            cases hsz : size? P t with
            | none => rw [hsz] at h; cases h
            | some k =>
              rw [hsz] at h
              simp only [Option.map_some, List.length_map] at h ⊢
              split at h
              · rename_i hcond
                rw [if_pos hcond]
                simp only [Option.some.injEq] at h; subst h
                refine ⟨_, rfl, .val (.val undef) ⟨?_, hm.df, hm.rm, hm.bs⟩⟩
                have := hm.H.set hf id (writeCells cs off new)
                rwa [← ren_writeCells] at this
              · cases h
      | _ => simp at h
    | a :: _ :: _ :: _ => cases a <;> simp at h
  | call c =>
    simp only [ho] at h ⊢
    cases hcl : c.callee with
    | builtin b =>
      rw [hcl] at h
      cases b with
      | recover =>
        simp only [List.map_eq_nil_iff] at h ⊢
        split at h
        · rename_i hv
          rw [if_pos hv]
          unfold arecover at h ⊢
          rw [hm.rm]
          split at h
          · cases h
          · rename_i e
            simp only [Option.some.injEq] at h; subst h
            rw [e]
            exact ⟨_, rfl, .val (.val .nilIface) hm⟩
          · rename_i v e
            simp only [Option.some.injEq] at h; subst h
            rw [e]
            simp only [renRM]
            refine ⟨_, rfl, ?_⟩
            have := GRR.val (ρ := ρ) (n := n) (N := N) (F := F) v.dis (g := { m with rm := .panicking v true }) (g' := { m' with rm := .panicking (v.ren ρ) true }) ⟨hm.H, hm.df, rfl, hm.bs⟩
            rwa [ren_dis] at this
          · rename_i v e
            simp only [Option.some.injEq] at h; subst h
            rw [e]
            exact ⟨_, rfl, .val (.val .nilIface) hm⟩
        · cases h
      | _ => simp at h
    | value x =>
      rw [hcl] at h
      simp only at h ⊢
      match vs with
      | [] => simp at h
      | a :: args =>
        cases a with
        | func fn first captured =>
          cases fn with
          | func g =>
            simp only [List.map_cons, ren_func] at h ⊢
            have := acallv_ren hc h hm
            simp only [List.map_append, ren_dis_map] at this
            exact this
          | _ => simp at h
        | _ => simp at h
    | invoke _ _ => rw [hcl] at h; simp at h
  | defer c =>
    simp only [ho] at h ⊢
    cases hcl : c.callee with
    | value x =>
      rw [hcl] at h
      simp only at h ⊢
      match vs with
      | [] => simp at h
      | a :: args =>
        cases a with
        | func fn first captured =>
          cases fn with
          | func g =>
            simp only [List.map_cons, ren_func] at h ⊢
            have e : (first.map (AV.ren ρ) ++ args.map (AV.ren ρ) ++ captured.map (AV.ren ρ)) = (first ++ args ++ captured).map (AV.ren ρ) := by simp
            rw [e, ren_anyLp]
            split at h
            · cases h
            · rename_i hl
              rw [if_neg hl]
              simp only [Option.some.injEq] at h; subst h
              refine ⟨_, rfl, .val (.val undef) ⟨hm.H, ?_, hm.rm, hm.bs⟩⟩
              simp only [List.map_cons, renD, hm.df, ren_dis_map]
          | _ => simp at h
        | _ => simp at h
    | _ => rw [hcl] at h; simp at h
  | panic x =>
    simp only [ho] at h ⊢
    match vs with
    | [] => simp at h
    | [a] =>
      cases a with
      | iface t v =>
        simp only [Option.some.injEq] at h; subst h
        exact ⟨_, rfl, .panic (.iface t v) hm⟩
      | _ => simp at h
    | a :: _ :: _ => cases a <;> simp at h
  | _ => simp only [ho] at h; simp at h

inductive SRR (ρ : Nat → Nat) (n N : Nat) (F : Heap) : SR → SR → Prop
  | next {s s' : St} : SRl ρ n N F s s' → SRR ρ n N F (.next s) (.next s')
  | panic (v : AV) {s s' : St} : SRl ρ n N F s s' → SRR ρ n N F (.panic v s) (.panic (v.ren ρ) s')

theorem ren_putT (s : List AV) (d : Option Tmp) (v : AV) : putT (s.map (AV.ren ρ)) d (v.ren ρ) = (putT s d v).map (AV.ren ρ) := by
  cases d with
  | none => rfl
  | some t => simp only [putT, List.map_set]

theorem aop_ren (hf : Fr ρ n N F) (hc : CallR ρ n N F call) {f : FuncId} {o : Oper} {s s' : St} {r : SR} (h : aop P cfg call f o s = some r) (hs : SRl ρ n N F s s') :
    ∃ r', aop P cfg call f o s' = some r' ∧ SRR ρ n N F r r' := by
  unfold aop at h ⊢
  simp only [hs.t, hs.l, ren_vals', ren_disT, ren_acls] at h ⊢
  split at h
  · rename_i hn
    rw [if_pos hn]
    split at h
    · rename_i ecl
      simp only [ecl, ren_apure]
      cases hp : apure P o (vals s.tmps o.op.operands.toList (moves cfg f o)) with
      | none => rw [hp] at h; cases h
      | some v =>
        rw [hp] at h
        simp only [Option.some.injEq] at h; subst h
        exact ⟨_, rfl, .next ⟨ren_putT .., rfl, hs.g⟩⟩
    · rename_i l b ecl
      simp only [ecl, List.getElem?_map]
      cases hl : s.lh[l]? with
      | none => rw [hl] at h; cases h
      | some c =>
        rw [hl] at h
        simp only [Option.map_some, ren_aloc] at h ⊢
        cases hp : aloc P cfg f o (vals s.tmps o.op.operands.toList (moves cfg f o)) c with
        | none => rw [hp] at h; cases h
        | some p =>
          obtain ⟨v, c'⟩ := p
          rw [hp] at h
          simp only [Option.some.injEq] at h; subst h
          exact ⟨_, rfl, .next ⟨ren_putT .., by simp only [List.map_set], hs.g⟩⟩
    · rename_i b ecl
      try simp only [ecl]
      cases hp : aglob P cfg call f o (vals s.tmps o.op.operands.toList (moves cfg f o)) s.g with
      | none => rw [hp] at h; cases h
      | some r0 =>
        obtain ⟨r', h1, h2⟩ := aglob_ren hf hc hp hs.g
        rw [hp] at h
        rw [h1]
        cases h2 with
        | val v hg => simp only [Option.some.injEq] at h; subst h; exact ⟨_, rfl, .next ⟨ren_putT .., rfl, hg⟩⟩
        | panic v hg => simp only [Option.some.injEq] at h; subst h; exact ⟨_, rfl, .panic v ⟨rfl, rfl, hg⟩⟩
  · cases h

theorem ren_wantedA (ops : Array Oper) (o : Oper) (ts : List AV) : wantedA ops o (ts.map (AV.ren ρ)) = wantedA ops o ts := by
  unfold wantedA
  split
  · rfl
  · split
    · rfl
    · rename_i t _
      rw [List.getElem?_map]
      cases ts[t]? with
      | none => rfl
      | some v => cases v with
        | val u => cases u <;> rfl
        | _ => simp

theorem astep_ren (hf : Fr ρ n N F) (hc : CallR ρ n N F call) {f : FuncId} {ops : Array Oper} {o : Oper} {s s' : St} {r : SR} (h : astep P cfg call f ops o s = some r) (hs : SRl ρ n N F s s') :
    ∃ r', astep P cfg call f ops o s' = some r' ∧ SRR ρ n N F r r' := by
  unfold astep at h ⊢
  rw [hs.t, ren_wantedA]
  split at h
  · exact aop_ren hf hc h hs
  · simp only [Option.some.injEq] at h; subst h
    exact ⟨_, rfl, .next ⟨ren_putT (ρ := ρ) s.tmps o.dst (.val undef), hs.l, hs.g⟩⟩
  · cases h

def renX (ρ : Nat → Nat) : AX → AX
  | .panic v => .panic (v.ren ρ)
  | x => x

theorem aops_ren (hf : Fr ρ n N F) (hc : CallR ρ n N F call) {f : FuncId} {ops : Array Oper} : ∀ {l : List Nat} {s s' : St} {x : AX} {s1 : St}, aops P cfg call f ops l s = some (x, s1) → SRl ρ n N F s s' →
    ∃ s1', aops P cfg call f ops l s' = some (renX ρ x, s1') ∧ SRl ρ n N F s1 s1' := by
  intro l
  induction l with
  | nil =>
    intro s s' x s1 h hs
    simp only [aops, Option.some.injEq, Prod.mk.injEq] at h
    obtain ⟨rfl, rfl⟩ := h
    exact ⟨s', rfl, hs⟩
  | cons i l ih =>
    intro s s' x s1 h hs
    simp only [aops] at h ⊢
    split at h
    · cases h
    · rename_i o ho
      cases hp : astep P cfg call f ops o s with
      | none => rw [hp] at h; cases h
      | some r0 =>
        obtain ⟨r', h1, h2⟩ := astep_ren hf hc hp hs
        rw [hp] at h
        rw [h1]
        cases h2 with
        | next hs' => exact ih h hs'
        | panic v hs' =>
          simp only [Option.some.injEq, Prod.mk.injEq] at h
          obtain ⟨rfl, rfl⟩ := h
          exact ⟨_, rfl, hs'⟩

theorem adraw_ren (hf : Fr ρ n N F) (hc : CallR ρ n N F call) {f : FuncId} {ops : Array Oper} : ∀ {l : List Oper} {i : Nat} {ancs : List Nat} {foot : List (Nat × Nat)} {s s' s1 : St}, adraw P cfg call f ops l i ancs foot s = some s1 → SRl ρ n N F s s' →
    ∃ s1', adraw P cfg call f ops l i ancs foot s' = some s1' ∧ SRl ρ n N F s1 s1' := by
  intro l
  induction l with
  | nil =>
    intro i ancs foot s s' s1 h hs
    simp only [adraw, Option.some.injEq] at h; subst h
    exact ⟨s', rfl, hs⟩
  | cons o l ih =>
    intro i ancs foot s s' s1 h hs
    have eR : footR cfg f ops o s' = footR cfg f ops o s := by unfold footR; rw [hs.t, ren_wantedA, ren_vals', ren_acls]
    have eW : footW cfg f ops o s' = footW cfg f ops o s := by unfold footW; rw [hs.t, ren_wantedA, ren_vals', ren_acls]
    simp only [adraw, eR, eW] at h ⊢
    split at h
    · rename_i hcd
      rw [if_pos hcd]
      cases hp : astep P cfg call f ops o s with
      | none => rw [hp] at h; cases h
      | some r0 =>
        obtain ⟨r', h1, h2⟩ := astep_ren hf hc hp hs
        rw [hp] at h
        rw [h1]
        cases h2 with
        | next hs' => exact ih h hs'
        | panic v hs' => cases h
    · cases h

theorem ren_maskTmps (m : Nat) : ∀ (l : List AV) (i : Nat), maskTmps m i (l.map (AV.ren ρ)) = (maskTmps m i l).map (AV.ren ρ)
  | [], i => rfl
  | v :: r, i => by
    simp only [List.map_cons, maskTmps, ren_maskTmps m r]
    split <;> rfl

theorem ren_maskLh (m : Nat) : ∀ (l : List (Option LCell)) (i : Nat), maskLh m i (l.map (Option.map (renL ρ))) = (maskLh m i l).map (Option.map (renL ρ))
  | [], i => rfl
  | c :: r, i => by
    simp only [List.map_cons, maskLh, ren_maskLh m r]
    split <;> rfl

theorem ren_lpIn (m : Nat) (v : AV) : lpIn m (v.ren ρ) = lpIn m v := by cases v <;> simp [lpIn]

/-! ### the cut -/

theorem lows_all (m : Nat) : ∀ l : List AV, lows m l = l.all (AV.low m)
  | [] => rfl
  | a :: l => by rw [lows, lows_all m l]; rfl
theorem lowss_all (m : Nat) : ∀ l : List (List AV), lowss m l = l.all (lows m)
  | [] => rfl
  | a :: l => by rw [lowss, lowss_all m l]; rfl

section
variable {a b : Nat}
mutual
theorem ren_low (hab : ∀ i, Nat.blt (ρ i) b = Nat.blt i a) : ∀ v : AV, (v.ren ρ).low b = v.low a
  | .any => rfl
  | .val _ => rfl
  | .slice _ rows _ => by rw [AV.ren, AV.low, AV.low]; exact ren_lowss hab rows
  | .ref cs => by rw [AV.ren, AV.low, AV.low]; exact ren_lows hab cs
  | .ptr id _ => by rw [AV.ren, AV.low, AV.low]; exact hab id
  | .lp _ _ _ => rfl
  | .func _ x y => by rw [AV.ren, AV.low, AV.low, ren_lows hab x, ren_lows hab y]
  | .iface _ v => by rw [AV.ren, AV.low, AV.low]; exact ren_low hab v
  | .agg cs => by rw [AV.ren, AV.low, AV.low]; exact ren_lows hab cs
  | .tuple vs => by rw [AV.ren, AV.low, AV.low]; exact ren_lows hab vs
theorem ren_lows (hab : ∀ i, Nat.blt (ρ i) b = Nat.blt i a) : ∀ l : List AV, lows b (rens ρ l) = lows a l
  | [] => rfl
  | v :: l => by rw [rens, lows, lows, ren_low hab v, ren_lows hab l]
theorem ren_lowss (hab : ∀ i, Nat.blt (ρ i) b = Nat.blt i a) : ∀ l : List (List AV), lowss b (renss ρ l) = lowss a l
  | [] => rfl
  | r :: l => by rw [renss, lowss, lowss, ren_lows hab r, ren_lowss hab l]
end
mutual
theorem low_mono (hab : a ≤ b) : ∀ v : AV, v.low a = true → v.low b = true
  | .any => fun _ => rfl
  | .val _ => fun _ => rfl
  | .slice _ rows _ => by rw [AV.low, AV.low]; exact lowss_mono hab rows
  | .ref cs => by rw [AV.low, AV.low]; exact lows_mono hab cs
  | .ptr id _ => by rw [AV.low, AV.low, Nat.blt_eq, Nat.blt_eq]; omega
  | .lp _ _ _ => fun _ => rfl
  | .func _ x y => by
    rw [AV.low, AV.low, Bool.and_eq_true, Bool.and_eq_true]
    exact fun h => ⟨lows_mono hab x h.1, lows_mono hab y h.2⟩
  | .iface _ v => by rw [AV.low, AV.low]; exact low_mono hab v
  | .agg cs => by rw [AV.low, AV.low]; exact lows_mono hab cs
  | .tuple vs => by rw [AV.low, AV.low]; exact lows_mono hab vs
theorem lows_mono (hab : a ≤ b) : ∀ l : List AV, lows a l = true → lows b l = true
  | [] => fun _ => rfl
  | v :: l => by
    rw [lows, lows, Bool.and_eq_true, Bool.and_eq_true]
    exact fun h => ⟨low_mono hab v h.1, lows_mono hab l h.2⟩
theorem lowss_mono (hab : a ≤ b) : ∀ l : List (List AV), lowss a l = true → lowss b l = true
  | [] => fun _ => rfl
  | v :: l => by
    rw [lowss, lowss, Bool.and_eq_true, Bool.and_eq_true]
    exact fun h => ⟨lows_mono hab v h.1, lowss_mono hab l h.2⟩
end
end

theorem Fr.blt (hf : Fr ρ n N F) {m : Nat} (hm : n ≤ m) (i : Nat) : Nat.blt (ρ i) (m - n + N) = Nat.blt i m := by
  rw [Bool.eq_iff_iff, Nat.blt_eq, Nat.blt_eq]
  rcases Nat.lt_or_ge i n with hi | hi
  · have := hf.lo i hi; omega
  · have := hf.hi i hi; omega

theorem HR.lowss (hf : Fr ρ n N F) {H K : Heap} (h : HR ρ n N F H K) {m : Nat} (hm : n ≤ m) : lowss (m - n + N) (K.take (m - n + N)) = lowss m (H.take m) := by
  rw [Bool.eq_iff_iff, lowss_all, lowss_all, List.all_eq_true, List.all_eq_true]
  have im : ∀ (i : Nat) cs, H[i]? = some cs → lows (m - n + N) (cs.map (AV.ren ρ)) = lows m cs := fun i cs _ => by
    rw [← rens_map]; exact ren_lows (hf.blt hm) cs
  constructor
  · intro hk cs hcs
    obtain ⟨i, hi, rfl⟩ := List.mem_iff_getElem.1 hcs
    simp only [List.length_take] at hi
    rw [List.getElem_take]
    have e := h.im i
    have e0 : H[i]? = some (H[i]'(by omega)) := List.getElem?_eq_getElem (by omega)
    rw [e0] at e
    rw [← im i _ e0]
    refine hk _ (List.mem_of_getElem? (i := ρ i) ?_)
    rw [List.getElem?_take, if_pos]
    · exact e
    · have := hf.blt hm i
      rw [Bool.eq_iff_iff, Nat.blt_eq, Nat.blt_eq] at this
      exact this.2 (by omega)
  · intro hh cs hcs
    obtain ⟨j, hj, rfl⟩ := List.mem_iff_getElem.1 hcs
    simp only [List.length_take] at hj
    rw [List.getElem_take]
    have him : ∀ i, i < m → ρ i = j → lows (m - n + N) (K[j]'(by omega)) = true := by
      intro i hi e
      subst e
      have e := h.im i
      rw [List.getElem?_eq_getElem (by omega)] at e
      cases hHi : H[i]? with
      | none => rw [hHi] at e; cases e
      | some cs =>
        rw [hHi] at e
        simp only [Option.map_some, Option.some.injEq] at e
        rw [e, im i cs hHi]
        refine hh cs (List.mem_of_getElem? (i := i) ?_)
        rw [List.getElem?_take, if_pos hi]; exact hHi
    by_cases hex : ∃ i, i < m ∧ ρ i = j
    · obtain ⟨i, hi, e⟩ := hex; exact him i hi e
    · have hjN : j < N := by
        rcases Nat.lt_or_ge j N with h1 | h1
        · exact h1
        · exact absurd ⟨j - N + n, by omega, by have := hf.hi (j - N + n) (by omega); omega⟩ hex
      have e := h.off j hjN (fun i hi e => hex ⟨i, by omega, e⟩)
      rw [List.getElem?_eq_getElem (by omega)] at e
      exact lows_mono (by omega) _ (hf.low j _ e.symm hjN (fun i hi e => hex ⟨i, by omega, e⟩))

theorem HR.take (hf : Fr ρ n N F) {H K : Heap} (h : HR ρ n N F H K) {m : Nat} (hm : n ≤ m) : HR ρ n N F (H.take m) (K.take (m - n + N)) := by
  have h1 := h.le
  have h2 := h.len
  refine ⟨by simp; omega, by simp; omega, ?_, ?_⟩
  · intro i
    have := hf.blt hm i
    rw [Bool.eq_iff_iff, Nat.blt_eq, Nat.blt_eq] at this
    rw [List.getElem?_take, List.getElem?_take]
    by_cases hi : i < m
    · rw [if_pos hi, if_pos (this.2 hi)]; exact h.im i
    · rw [if_neg hi, if_neg (fun hh => hi (this.1 hh))]; rfl
  · intro j hj hn
    rw [List.getElem?_take, if_pos (by omega)]; exact h.off j hj hn

theorem lowL_ren {a b : Nat} (hab : ∀ i, Nat.blt (ρ i) b = Nat.blt i a) : ∀ l : List (Option LCell), lowL b (l.map (Option.map (renL ρ))) = lowL a l
  | [] => rfl
  | none :: l => by simp only [List.map_cons, Option.map_none, lowL]; exact lowL_ren hab l
  | some (g, cs) :: l => by simp only [List.map_cons, Option.map_some, renL, lowL, lowL_ren hab l, ← rens_map, ren_lows hab]

theorem lowD_ren {a b : Nat} (hab : ∀ i, Nat.blt (ρ i) b = Nat.blt i a) : ∀ l : List ADef, lowD b (l.map (renD ρ)) = lowD a l
  | [] => rfl
  | d :: l => by simp only [List.map_cons, renD, lowD, lowD_ren hab l, ← rens_map, ren_lows hab]

theorem lowRM_ren {a b : Nat} (hab : ∀ i, Nat.blt (ρ i) b = Nat.blt i a) (m : RM) : lowRM b (renRM ρ m) = lowRM a m := by
  cases m with
  | panicking v r => exact ren_low hab v
  | _ => rfl

theorem cutSt_ren (hf : Fr ρ n N F) {s s' : St} (hs : SRl ρ n N F s s') : SRl ρ n N F (cutSt s) (cutSt s') := by
  obtain ⟨hb1, hb2⟩ := hs.g.bs
  have h2 := hs.g.H.len
  have h1 := hs.g.H.le
  have e1 : Nat.ble s'.g.H.length s'.g.base = Nat.ble s.g.H.length s.g.base := by
    rw [Bool.eq_iff_iff, Nat.ble_eq, Nat.ble_eq]; omega
  have e2 : lowSt s'.g.base s' = lowSt s.g.base s := by
    have hab := hf.blt hb1
    unfold lowSt
    rw [hs.t, hs.l, hs.g.df, hs.g.rm, hb2, lowL_ren hab, lowD_ren hab, lowRM_ren hab, hs.g.H.lowss hf hb1, ← rens_map, ren_lows hab]
  unfold cutSt
  rw [e1, e2]
  split
  · exact hs
  · split
    · refine ⟨hs.t, hs.l, ?_, hs.g.df, hs.g.rm, hs.g.bs⟩
      simp only
      rw [hb2]; exact hs.g.H.take hf hb1
    · exact hs

theorem maskSt_ren (hf : Fr ρ n N F) {live : Option Nat} {s s' s1 : St} (h : maskSt live s = some s1) (hs : SRl ρ n N F s s') : ∃ s1', maskSt live s' = some s1' ∧ SRl ρ n N F s1 s1' := by
  unfold maskSt at h ⊢
  cases live with
  | none =>
    simp only [Option.some.injEq] at h; subst h
    exact ⟨s', rfl, hs⟩
  | some m =>
    simp only at h ⊢
    have e : (maskTmps m 0 s'.tmps).all (lpIn m) = (maskTmps m 0 s.tmps).all (lpIn m) := by
      rw [hs.t, ren_maskTmps, List.all_map]
      congr 1; funext v; exact ren_lpIn m v
    rw [e]
    split at h
    · rename_i hc
      rw [if_pos hc]
      have h0 : SRl ρ n N F { s with tmps := maskTmps m 0 s.tmps, lh := maskLh m 0 s.lh } { s' with tmps := maskTmps m 0 s'.tmps, lh := maskLh m 0 s'.lh } :=
        ⟨by rw [hs.t]; exact ren_maskTmps .., by rw [hs.l]; exact ren_maskLh .., hs.g⟩
      split at h
      · simp only [Option.some.injEq] at h; subst h
        exact ⟨_, rfl, cutSt_ren hf h0⟩
      · simp only [Option.some.injEq] at h; subst h
        exact ⟨_, rfl, h0⟩
    · cases h

theorem aloop_ren (hf : Fr ρ n N F) {live : Option Nat} {body : St → Option (AX × St)} (hb : ∀ s s' x s1, body s = some (x, s1) → SRl ρ n N F s s' → ∃ s1', body s' = some (renX ρ x, s1') ∧ SRl ρ n N F s1 s1') :
    ∀ {k : Nat} {s s' : St} {x : AX} {s1 : St}, aloop live body k s = some (x, s1) → SRl ρ n N F s s' → ∃ s1', aloop live body k s' = some (renX ρ x, s1') ∧ SRl ρ n N F s1 s1' := by
  intro k
  induction k with
  | zero => intro s s' x s1 h; simp [aloop] at h
  | succ k ih =>
    intro s s' x s1 h hs
    simp only [aloop] at h ⊢
    cases hm : maskSt live s with
    | none => rw [hm] at h; cases h
    | some s0 =>
      obtain ⟨s0', h1, h2⟩ := maskSt_ren hf hm hs
      rw [hm] at h
      rw [h1]
      simp only at h ⊢
      cases hp : body s0 with
      | none => rw [hp] at h; cases h
      | some p =>
        obtain ⟨y, s2⟩ := p
        obtain ⟨s2', h3, h4⟩ := hb _ _ _ _ hp h2
        rw [hp] at h
        rw [h3]
        cases y with
        | normal => exact ih h h4
        | exit id =>
          simp only [Option.some.injEq, Prod.mk.injEq] at h
          obtain ⟨rfl, rfl⟩ := h; exact ⟨_, rfl, h4⟩
        | ret =>
          simp only [Option.some.injEq, Prod.mk.injEq] at h
          obtain ⟨rfl, rfl⟩ := h; exact ⟨_, rfl, h4⟩
        | panic v =>
          simp only [Option.some.injEq, Prod.mk.injEq] at h
          obtain ⟨rfl, rfl⟩ := h; exact ⟨_, rfl, h4⟩

theorem acode_ren (hf : Fr ρ n N F) (hc : CallR ρ n N F call) {k : Nat} {f : FuncId} : ∀ {c : Code} {b : Nat} {s s' : St} {x : AX} {s1 : St}, acode P cfg call k f b c s = some (x, s1) → SRl ρ n N F s s' →
    ∃ s1', acode P cfg call k f b c s' = some (renX ρ x, s1') ∧ SRl ρ n N F s1 s1' := by
  intro c
  induction c with
  | skip =>
    intro b s s' x s1 h hs
    simp only [acode, Option.some.injEq, Prod.mk.injEq] at h ⊢
    obtain ⟨rfl, rfl⟩ := h
    exact ⟨s', ⟨rfl, rfl⟩, hs⟩
  | region id ops d =>
    intro b s s' x s1 h hs
    cases d with
    | false => simp only [acode] at h ⊢; exact aops_ren hf hc h hs
    | true =>
      simp only [acode] at h ⊢
      cases hp : adraw P cfg call f ops ops.toList 0 [] [] s with
      | none => rw [hp] at h; cases h
      | some s2 =>
        obtain ⟨s2', h1, h2⟩ := adraw_ren hf hc hp hs
        rw [hp] at h
        rw [h1]
        simp only [Option.some.injEq, Prod.mk.injEq] at h
        obtain ⟨rfl, rfl⟩ := h
        exact ⟨_, rfl, h2⟩
  | seq c1 c2 ih1 ih2 =>
    intro b s s' x s1 h hs
    simp only [acode] at h ⊢
    cases hp : acode P cfg call k f b c1 s with
    | none => rw [hp] at h; cases h
    | some p =>
      obtain ⟨y, s2⟩ := p
      obtain ⟨s2', h1, h2⟩ := ih1 hp hs
      rw [hp] at h
      rw [h1]
      cases y with
      | normal =>
        simp only [renX] at h ⊢
        split at h
        · rename_i s3 hm
          obtain ⟨s3', h3, h4⟩ := maskSt_ren hf hm h2
          rw [h3]
          exact ih2 h h4
        · cases h
      | exit id =>
        simp only [Option.some.injEq, Prod.mk.injEq] at h
        obtain ⟨rfl, rfl⟩ := h; exact ⟨_, rfl, h2⟩
      | ret =>
        simp only [Option.some.injEq, Prod.mk.injEq] at h
        obtain ⟨rfl, rfl⟩ := h; exact ⟨_, rfl, h2⟩
      | panic v =>
        simp only [Option.some.injEq, Prod.mk.injEq] at h
        obtain ⟨rfl, rfl⟩ := h; exact ⟨_, rfl, h2⟩
  | cond c x y ihx ihy =>
    intro b s s' x s1 h hs
    simp only [acode] at h ⊢
    rw [hs.t, ren_aeval]
    split at h
    · rename_i e; rw [e]; exact ihx h hs
    · rename_i e; rw [e]; exact ihy h hs
    · cases h
  | block id c ih =>
    intro b s s' x s1 h hs
    simp only [acode] at h ⊢
    cases hp : acode P cfg call k f id c s with
    | none => rw [hp] at h; cases h
    | some p =>
      obtain ⟨y, s2⟩ := p
      obtain ⟨s2', h1, h2⟩ := ih hp hs
      rw [hp] at h
      rw [h1]
      cases y with
      | exit id' =>
        simp only [renX] at h ⊢
        split at h
        · rename_i e
          rw [if_pos e]
          simp only [Option.some.injEq, Prod.mk.injEq] at h
          obtain ⟨rfl, rfl⟩ := h; exact ⟨_, rfl, h2⟩
        · rename_i e
          rw [if_neg e]
          simp only [Option.some.injEq, Prod.mk.injEq] at h
          obtain ⟨rfl, rfl⟩ := h; exact ⟨_, rfl, h2⟩
      | normal =>
        simp only [Option.some.injEq, Prod.mk.injEq] at h
        obtain ⟨rfl, rfl⟩ := h; exact ⟨_, rfl, h2⟩
      | ret =>
        simp only [Option.some.injEq, Prod.mk.injEq] at h
        obtain ⟨rfl, rfl⟩ := h; exact ⟨_, rfl, h2⟩
      | panic v =>
        simp only [Option.some.injEq, Prod.mk.injEq] at h
        obtain ⟨rfl, rfl⟩ := h; exact ⟨_, rfl, h2⟩
  | scope c ih =>
    intro b s s' x s1 h hs
    simp only [acode] at h ⊢
    exact ih h hs
  | label l =>
    intro b s s' x s1 h hs
    simp only [acode, Option.some.injEq, Prod.mk.injEq] at h ⊢
    obtain ⟨rfl, rfl⟩ := h
    exact ⟨s', ⟨rfl, rfl⟩, hs⟩
  | loop c ih =>
    intro b s s' x s1 h hs
    simp only [acode] at h ⊢
    exact aloop_ren hf (fun s s' x s1 h hs => ih h hs) h hs
  | exit id =>
    intro b s s' x s1 h hs
    simp only [acode, Option.some.injEq, Prod.mk.injEq] at h ⊢
    obtain ⟨rfl, rfl⟩ := h
    exact ⟨s', ⟨rfl, rfl⟩, hs⟩
  | ret =>
    intro b s s' x s1 h hs
    simp only [acode, Option.some.injEq, Prod.mk.injEq] at h ⊢
    obtain ⟨rfl, rfl⟩ := h
    exact ⟨s', ⟨rfl, rfl⟩, hs⟩
  | _ => intro b s s' x s1 h; simp [acode] at h

theorem ren_settle (m : RM) : settleA (renRM ρ m) = renRM ρ (settleA m) := by
  cases m with
  | panicking v r => cases r <;> rfl
  | _ => rfl

theorem adefers_ren (hc : CallR ρ n N F call) : ∀ {l : List ADef} {m : RM} {H K : Heap} {m1 : RM} {H1 : Heap}, adefers call l m H = some (m1, H1) → HR ρ n N F H K →
    ∃ K1, adefers call (l.map (renD ρ)) (renRM ρ m) K = some (renRM ρ m1, K1) ∧ HR ρ n N F H1 K1 := by
  intro l
  induction l with
  | nil =>
    intro m H K m1 H1 h hH
    simp only [adefers, Option.some.injEq, Prod.mk.injEq] at h
    obtain ⟨rfl, rfl⟩ := h
    exact ⟨K, rfl, hH⟩
  | cons d l ih =>
    intro m H K m1 H1 h hH
    simp only [List.map_cons, adefers, renD] at h ⊢
    split at h
    · rename_i v m' H' e
      obtain ⟨⟨o, rm', K'⟩, e', h1, h2, h3⟩ := hc _ _ _ _ _ e _ hH
      simp only [renOut] at h1 h2; subst h1; subst h2
      rw [e']
      simp only [ren_settle]
      exact ih h h3
    · rename_i v m' H' e
      obtain ⟨⟨o, rm', K'⟩, e', h1, h2, h3⟩ := hc _ _ _ _ _ e _ hH
      simp only [renOut] at h1; subst h1
      rw [e']
      exact ih h h3
    · cases h

theorem aresult_ren {s s' : St} {H K : Heap} (hs : SRl ρ n N F s s') (hH : HR ρ n N F H K) (r : ResultVar) {v : AV} (h : aresult P s H r = some v) : aresult P s' K r = some (v.ren ρ) := by
  cases r with
  | tmp t =>
    simp only [aresult, hs.t, getD_ren, ren_isLp] at h ⊢
    split at h
    · cases h
    · rename_i e
      rw [if_neg e]
      simp only [Option.some.injEq] at h; subst h; rfl
  | cell a t =>
    simp only [aresult, hs.t, hs.l, getD_ren] at h ⊢
    cases ha : s.tmps.getD a .any with
    | ref cs =>
      rw [ha] at h
      simp only [ren_ref] at h ⊢
      rw [ren_readCells, h]; rfl
    | ptr id o =>
      rw [ha] at h
      simp only [ren_ptr, hH.im] at h ⊢
      cases hc : H[id]? with
      | none => rw [hc] at h; cases h
      | some cs =>
        rw [hc] at h
        simp only [Option.map_some] at h ⊢
        rw [ren_readCells, h]; rfl
    | lp l g o =>
      rw [ha] at h
      simp only [ren_lp, List.getElem?_map] at h ⊢
      cases hc : s.lh[l]? with
      | none => rw [hc] at h; cases h
      | some c => cases c with
        | none => rw [hc] at h; cases h
        | some c =>
          obtain ⟨g', cs⟩ := c
          rw [hc] at h
          simp only [Option.map_some, renL] at h ⊢
          split at h
          · rename_i e
            rw [if_pos e, ren_readCells, h]; rfl
          · cases h
    | _ => rw [ha] at h; simp at h

theorem aresults_ren {s s' : St} {H K : Heap} (hs : SRl ρ n N F s s') (hH : HR ρ n N F H K) : ∀ (rs : List ResultVar) {l : List AV}, aresults P s H rs = some l → aresults P s' K rs = some (l.map (AV.ren ρ))
  | [], l, h => by simp only [aresults, Option.some.injEq] at h; subst h; rfl
  | r :: rs, l, h => by
    simp only [aresults] at h ⊢
    cases h1 : aresult P s H r with
    | none => rw [h1] at h; cases h
    | some v => cases h2 : aresults P s H rs with
      | none => rw [h1, h2] at h; cases h
      | some l' =>
        rw [h1, h2] at h
        simp only [Option.some.injEq] at h; subst h
        rw [aresult_ren hs hH r h1, aresults_ren hs hH rs h2]; rfl

theorem ren_resultOf (l : List AV) : resultOf (l.map (AV.ren ρ)) = (resultOf l).ren ρ := by
  match l with
  | [] => simp [resultOf]
  | [v] => rfl
  | a :: b :: r =>
    simp only [List.map_cons, resultOf, ren_tuple, AV.tuple.injEq, ren_dis, List.cons.injEq, true_and]
    exact (ren_dis_map r).symm

theorem afinish_ren (hc : CallR ρ n N F call) {fn : Func} {s s' : St} {m : RM} {r : CRes} (h : afinish P call fn s m = some r) (hs : SRl ρ n N F s s') :
    ∃ r', afinish P call fn s' (renRM ρ m) = some r' ∧ RRl ρ n N F r r' := by
  unfold afinish at h ⊢
  rw [hs.g.rm, hs.g.df]
  cases hrm : s.g.rm with
  | none =>
    rw [hrm] at h
    have e0 : renRM ρ .none = .none := rfl
    simp only [e0] at h ⊢
    split at h
    · rename_i H e
      obtain ⟨K1, h1, h2⟩ := adefers_ren hc e hs.g.H
      rw [h1]
      simp only [renRM]
      split at h
      · rename_i l e2
        simp only [Option.some.injEq] at h; subst h
        rw [aresults_ren hs h2 _ e2]
        exact ⟨_, rfl, ⟨by simp only [renOut, ren_resultOf], rfl, h2⟩⟩
      · cases h
    · rename_i v H e
      obtain ⟨K1, h1, h2⟩ := adefers_ren hc e hs.g.H
      rw [h1]
      simp only [Option.some.injEq] at h; subst h
      exact ⟨_, rfl, ⟨rfl, rfl, h2⟩⟩
    · cases h
  | returning =>
    rw [hrm] at h
    simp only [renRM, List.isEmpty_map] at h ⊢
    split at h
    · rename_i he
      rw [if_pos he]
      cases m with
      | returning =>
        simp only at h ⊢
        split at h
        · rename_i l e2
          simp only [Option.some.injEq] at h; subst h
          rw [aresults_ren hs hs.g.H _ e2]
          exact ⟨_, rfl, ⟨by simp only [renOut, ren_resultOf], rfl, hs.g.H⟩⟩
        · cases h
      | panicking v b => cases b with
        | false =>
          simp only [Option.some.injEq] at h; subst h
          exact ⟨_, rfl, ⟨rfl, rfl, hs.g.H⟩⟩
        | true => cases h
      | none => cases h
    · cases h
  | panicking v0 b0 =>
    rw [hrm] at h
    simp only [renRM, List.isEmpty_map] at h ⊢
    split at h
    · rename_i he
      rw [if_pos he]
      cases m with
      | returning =>
        simp only at h ⊢
        split at h
        · rename_i l e2
          simp only [Option.some.injEq] at h; subst h
          rw [aresults_ren hs hs.g.H _ e2]
          exact ⟨_, rfl, ⟨by simp only [renOut, ren_resultOf], rfl, hs.g.H⟩⟩
        · cases h
      | panicking v b => cases b with
        | false =>
          simp only [Option.some.injEq] at h; subst h
          exact ⟨_, rfl, ⟨rfl, rfl, hs.g.H⟩⟩
        | true => cases h
      | none => cases h
    · cases h

theorem abody_ren (hf : Fr ρ n N F) (hc : CallR ρ n N F call) {k : Nat} {f : FuncId} {fn : Func} {c : Code} {args : List AV} {rm : RM} {H K : Heap} {r : CRes} (h : abody P cfg call k f fn c args rm H = some r) (hH : HR ρ n N F H K) :
    ∃ r', abody P cfg call k f fn c (args.map (AV.ren ρ)) (renRM ρ rm) K = some r' ∧ RRl ρ n N F r r' := by
  unfold abody at h ⊢
  have h0 : SRl ρ n N F ⟨args ++ List.replicate (fn.ntmps - args.length) (.val undef), List.replicate fn.ntmps none, ⟨H, [], rm, H.length⟩⟩
      ⟨args.map (AV.ren ρ) ++ List.replicate (fn.ntmps - (args.map (AV.ren ρ)).length) (.val undef), List.replicate fn.ntmps none, ⟨K, [], renRM ρ rm, K.length⟩⟩ :=
    ⟨by simp, by simp, ⟨hH, rfl, rfl, hH.le, hH.len⟩⟩
  split at h
  · rename_i s e
    obtain ⟨s', e', hs⟩ := acode_ren hf hc e h0
    rw [e']
    exact afinish_ren hc h hs
  · rename_i s e
    obtain ⟨s', e', hs⟩ := acode_ren hf hc e h0
    rw [e']
    exact afinish_ren hc h hs
  · rename_i v s e
    obtain ⟨s', e', hs⟩ := acode_ren hf hc e h0
    rw [e']
    exact afinish_ren hc h hs
  · cases h

theorem cutRes_ren (hf : Fr ρ n N F) {r r' : CRes} (h : RRl ρ n N F r r') {H K : Heap} (hH : HR ρ n N F H K) : RRl ρ n N F (cutRes H.length r) (cutRes K.length r') := by
  have h1 := hH.le
  have h2 := hH.len
  have h3 := h.H.len
  have h4 := h.H.le
  have e1 : Nat.ble r'.H.length K.length = Nat.ble r.H.length H.length := by
    rw [Bool.eq_iff_iff, Nat.ble_eq, Nat.ble_eq]; omega
  have e2 : r'.out.low K.length = r.out.low H.length := by
    rw [h.o, h2]
    cases r.out with
    | ret v => exact ren_low (hf.blt h1) v
    | panic v => exact ren_low (hf.blt h1) v
  have e3 : Eng.lowss K.length (r'.H.take K.length) = Eng.lowss H.length (r.H.take H.length) := by
    rw [h2]; exact h.H.lowss hf h1
  unfold cutRes
  rw [e1, e2, e3]
  split
  · exact h
  · split
    · refine ⟨h.o, h.rm, ?_⟩
      rw [h2]; exact h.H.take hf h1
    · exact h

theorem normV_ren (t : TypeId) (v : AV) : (normV P t v).ren ρ = normV P t (v.ren ρ) := by
  cases v with
  | slice sz rows own =>
    unfold normV
    simp only [AV.ren]
    split
    · split
      · split
        · rfl
        · cases rows with
          | nil => rfl
          | cons r l => rfl
      · rfl
    · rfl
  | _ => rfl
theorem normL_ren : ∀ (ts : List TypeId) (vs : List AV), rens ρ (normL P ts vs) = normL P ts (rens ρ vs)
  | [], vs => by unfold normL; rfl
  | t :: ts, [] => rfl
  | t :: ts, v :: vs => by simp only [normL, rens, normV_ren, normL_ren ts vs]
theorem normRes_ren {b : Bool} {ts : List TypeId} {r r' : CRes} (h : RRl ρ n N F r r') : RRl ρ n N F (normRes P b ts r) (normRes P b ts r') := by
  cases b with
  | false => exact h
  | true =>
    refine ⟨?_, h.rm, h.H⟩
    simp only [normRes, h.o]
    cases r.out with
    | panic v => rfl
    | ret v =>
      simp only [normO, renOut]
      split
      · simp only [normV_ren]
      · cases v with
        | tuple vs => simp only [AV.ren, normL_ren]
        | _ => rfl

/-- Contracts go along with a heap that is greater. -/
def ExtR (ρ : Nat → Nat) (n N : Nat) (F : Heap) (ext : Ext) : Prop :=
  ∀ f e, ext f = some e → ∀ args H out H', e args H = some (out, H') → ∀ K, HR ρ n N F H K → ∃ K', e (args.map (AV.ren ρ)) K = some (renOut ρ out, K') ∧ HR ρ n N F H' K'

theorem extR_none : ExtR ρ n N F (fun _ => none) := fun f e h => by cases h

theorem acall_ren {ext : Ext} (hf : Fr ρ n N F) (hx : ExtR ρ n N F ext) : ∀ k, CallR ρ n N F (acall P cfg ext k) := by
  intro k
  induction k with
  | zero => intro f args rm H r h; simp [acall] at h
  | succ k ih =>
    intro f args rm H r h K hH
    simp only [acall] at h ⊢
    split at h
    · rename_i e he
      split at h
      · split at h
        · rename_i out H' heq
          simp only [Option.some.injEq] at h; subst h
          obtain ⟨K', k1, k2⟩ := hx f e he args H out H' heq K hH
          simp only [renRM, k1]
          exact ⟨_, rfl, rfl, rfl, k2⟩
        · cases h
      · cases h
    · split at h
      · cases h
      · split at h
        · cases h
        rw [Option.map_eq_some_iff] at h
        obtain ⟨r0, h, rfl⟩ := h
        obtain ⟨r', h1, h2⟩ := abody_ren hf ih h hH
        rw [h1]
        refine ⟨_, rfl, ?_⟩
        cases rm with
        | none => exact normRes_ren (cutRes_ren hf h2 hH)
        | returning => exact normRes_ren h2
        | panicking v b => exact normRes_ren h2

/-- What a function does in a heap it does in a greater one. -/
theorem ev_ren {ext : Ext} (hf : Fr ρ n N F) (hx : ExtR ρ n N F ext) : CallR ρ n N F (ev P cfg ext) := by
  intro f args rm H r h K hH
  obtain ⟨k, hk⟩ := ev_iff.1 h
  obtain ⟨r', h1, h2⟩ := acall_ren hf hx k f args rm H r hk K hH
  exact ⟨r', ev_iff.2 ⟨k, h1⟩, h2⟩
end
end Go.Eng
end

section
/-
  THE ENGINE, part 18: what code comes to, told forward (WC, WO): one rule for each form of code and of operation.
-/
set_option linter.unusedVariables false
set_option linter.unusedSimpArgs false
namespace Go.Eng

/-- A guard's value. -/
def gval (dsts : List (Option Tmp)) (T : List AV) (j : Nat) : Option AV :=
  match dsts.getD j none with
  | none => some (.val undef)
  | some t => match T[t]? with
    | none => some (.val undef)
    | some v => some v

def wantedG (dsts : List (Option Tmp)) (o : Oper) (T : List AV) : Option Bool :=
  match o.guard with
  | none => some true
  | some (j, want) => match gval dsts T j with
    | some (.val (.bool b)) => some (b == want)
    | some (.val _) => some false
    | _ => none

section
variable (P : Program) (cfg : FuncId → FCfg) (call : CallF)

/-- Operations one behind the other; of each what it looked at. -/
def aopsC (f : FuncId) (dsts : List (Option Tmp)) : List Oper → List (Option Cls) → St → Option (AX × List (Option Cls) × St)
  | [], acc, s => some (.normal, acc, s)
  | o :: r, acc, s => match wantedG dsts o s.tmps with
    | some true => match aop P cfg call f o s with
      | some (.next s') => aopsC f dsts r (some (acls cfg f o (vals s.tmps o.op.operands.toList (moves cfg f o))) :: acc) s'
      | some (.panic v s') => some (.panic v, acc, s')
      | none => none
    | some false => aopsC f dsts r (none :: acc) { s with tmps := putT s.tmps o.dst (.val undef) }
    | none => none

def sR (f : FuncId) (dsts : List (Option Tmp)) (o : Oper) (c : Option Cls) : Nat :=
  tmpBits o.op.operands.toList ||| optBit (match o.guard with | none => none | some (j, _) => dsts.getD j none) |||
    match c with
    | some .pure => 0
    | some (.loc l _) => 2 ^ (2 * l + 1)
    | some (.glob _) => 1
    | none => 0

def sW (f : FuncId) (o : Oper) (c : Option Cls) : Nat :=
  optBit o.dst ||| listBits (movedTmps o.op.operands.toList (moves cfg f o)) |||
    match c with
    | some (.loc l true) => 2 ^ (2 * l + 1)
    | some (.glob true) => 1
    | _ => 0

/-- May a drawn region's operations be told in the text's order? -/
def checkD (f : FuncId) (dsts : List (Option Tmp)) : List Oper → List (Option Cls) → (i : Nat) → (ancs : List Nat) → (foot : List (Nat × Nat)) → Bool
  | o :: r, c :: cl, i, ancs, foot =>
    edgesDown i o.after.toList && apartFrom (ancBits ancs o.after.toList) (sR f dsts o c) (sW cfg f o c) 0 foot &&
      checkD f dsts r cl (i + 1) (ancs ++ [ancBits ancs o.after.toList]) (foot ++ [(sR f dsts o c, sW cfg f o c)])
  | _, _, _, _, _ => true

def WO (f : FuncId) (dsts : List (Option Tmp)) (l : List Oper) (acc : List (Option Cls)) (Q : List (Option Cls) → AX → St → Prop) (s : St) : Prop :=
  ∃ x acc' s', aopsC P cfg call f dsts l acc s = some (x, acc', s') ∧ Q acc' x s'

def WC (f : FuncId) (b : Nat) (c : Code) (Q : AX → St → Prop) (s : St) : Prop := ∃ x s', codeE P cfg call f b c s = some (x, s') ∧ Q x s'
end

section
variable {P : Program} {cfg : FuncId → FCfg} {call : CallF} {f : FuncId}

theorem wantedG_eq (ops : Array Oper) (o : Oper) (T : List AV) : wantedG (ops.toList.map (·.dst)) o T = wantedA ops o T := by
  unfold wantedG wantedA
  cases hg : o.guard with
  | none => rfl
  | some p =>
    obtain ⟨j, want⟩ := p
    simp only [gval]
    have e : (ops.toList.map (·.dst)).getD j none = (ops[j]?).bind (·.dst) := by
      rw [List.getD_eq_getElem?_getD, List.getElem?_map, Array.getElem?_toList]
      cases ops[j]? <;> rfl
    rw [e]
    cases (ops[j]?).bind (·.dst) with
    | none => rfl
    | some t =>
      simp only
      cases T[t]? with
      | none => rfl
      | some v =>
        cases v with
        | val u => cases u <;> rfl
        | _ => rfl

theorem aopsC_aops {ops : Array Oper} : ∀ (l : List Oper) (i : Nat) (acc : List (Option Cls)) (s : St) (x : AX) (acc' : List (Option Cls)) (s' : St), ops.toList.drop i = l → aopsC P cfg call f (ops.toList.map (·.dst)) l acc s = some (x, acc', s') →
    aops P cfg call f ops ((List.range ops.size).drop i) s = some (x, s') := by
  intro l
  induction l with
  | nil =>
    intro i acc s x acc' s' hl h
    simp only [aopsC, Option.some.injEq, Prod.mk.injEq] at h
    obtain ⟨rfl, _, rfl⟩ := h
    have : ops.toList.length ≤ i := List.drop_eq_nil_iff.1 hl
    rw [List.drop_of_length_le (by simpa using this)]; rfl
  | cons o r ih =>
    intro i acc s x acc' s' hl h
    have hi : i < ops.toList.length := by
      rcases Nat.lt_or_ge i ops.toList.length with h | h
      · exact h
      · rw [List.drop_of_length_le h] at hl; cases hl
    have hi' : i < ops.size := by simpa using hi
    rw [List.drop_eq_getElem_cons hi] at hl
    simp only [List.cons.injEq] at hl
    rw [List.drop_eq_getElem_cons (by simpa using hi')]
    simp only [List.getElem_range, aops]
    have ho : ops[i]? = some o := by rw [← Array.getElem?_toList, List.getElem?_eq_getElem hi, hl.1]
    simp only [ho, astep, ← wantedG_eq]
    simp only [aopsC] at h
    split at h
    · rename_i hw
      simp only [hw]
      split at h
      · rename_i e; simp only [e]; exact ih _ _ _ _ _ _ hl.2 h
      · rename_i e
        simp only [Option.some.injEq, Prod.mk.injEq] at h
        obtain ⟨rfl, _, rfl⟩ := h
        simp only [e]
      · cases h
    · rename_i hw
      simp only [hw]
      exact ih _ _ _ _ _ _ hl.2 h
    · cases h

theorem aopsC_acc {dsts : List (Option Tmp)} : ∀ (l : List Oper) (acc : List (Option Cls)) (s : St) (x : AX) (acc' : List (Option Cls)) (s' : St), aopsC P cfg call f dsts l acc s = some (x, acc', s') → ∃ new, acc' = new ++ acc ∧
    ∀ acc2, aopsC P cfg call f dsts l acc2 s = some (x, new ++ acc2, s') := by
  intro l
  induction l with
  | nil =>
    intro acc s x acc' s' h
    simp only [aopsC, Option.some.injEq, Prod.mk.injEq] at h
    obtain ⟨rfl, rfl, rfl⟩ := h
    exact ⟨[], rfl, fun _ => rfl⟩
  | cons o r ih =>
    intro acc s x acc' s' h
    simp only [aopsC] at h ⊢
    split at h
    · split at h
      · obtain ⟨new, e1, e2⟩ := ih _ _ _ _ _ h
        exact ⟨new ++ [some (acls cfg f o (vals s.tmps o.op.operands.toList (moves cfg f o)))], by rw [e1]; simp, fun acc2 => by rw [e2]; simp⟩
      · simp only [Option.some.injEq, Prod.mk.injEq] at h
        obtain ⟨rfl, rfl, rfl⟩ := h
        exact ⟨[], rfl, fun _ => rfl⟩
      · cases h
    · obtain ⟨new, e1, e2⟩ := ih _ _ _ _ _ h
      exact ⟨new ++ [none], by rw [e1]; simp, fun acc2 => by rw [e2]; simp⟩
    · cases h

theorem aopsC_adraw {ops : Array Oper} : ∀ (l : List Oper) (i : Nat) (ancs : List Nat) (foot : List (Nat × Nat)) (s : St) (cl : List (Option Cls)) (s' : St), aopsC P cfg call f (ops.toList.map (·.dst)) l [] s = some (.normal, cl, s') →
    checkD cfg f (ops.toList.map (·.dst)) l cl.reverse i ancs foot = true → adraw P cfg call f ops l i ancs foot s = some s' := by
  intro l
  induction l with
  | nil =>
    intro i ancs foot s cl s' h _
    simp only [aopsC, Option.some.injEq, Prod.mk.injEq] at h
    obtain ⟨_, _, rfl⟩ := h
    rfl
  | cons o r ih =>
    intro i ancs foot s cl s' h hc
    have hgt : (match o.guard with | none => none | some (j, _) => (ops.toList.map (·.dst)).getD j none) = guardTmp ops o := by
      unfold guardTmp
      cases o.guard with
      | none => rfl
      | some p =>
        obtain ⟨j, want⟩ := p
        simp only [List.getD_eq_getElem?_getD, List.getElem?_map, Array.getElem?_toList]
        cases ops[j]? <;> rfl
    simp only [aopsC] at h
    split at h
    · rename_i hw
      split at h
      · rename_i s1 e
        obtain ⟨new, e1, e2⟩ := aopsC_acc _ _ _ _ _ _ h
        subst e1
        simp only [List.reverse_append, List.reverse_cons, List.reverse_nil, List.nil_append, List.cons_append, checkD, Bool.and_eq_true] at hc
        have h2 := e2 []
        simp only [List.append_nil] at h2
        have hR : footR cfg f ops o s = sR f (ops.toList.map (·.dst)) o (some (acls cfg f o (vals s.tmps o.op.operands.toList (moves cfg f o)))) := by
          unfold footR sR
          rw [hgt, ← wantedG_eq, hw]
          cases acls cfg f o (vals s.tmps o.op.operands.toList (moves cfg f o)) <;> rfl
        have hW : footW cfg f ops o s = sW cfg f o (some (acls cfg f o (vals s.tmps o.op.operands.toList (moves cfg f o)))) := by
          unfold footW sW
          rw [← wantedG_eq, hw]
          generalize acls cfg f o (vals s.tmps o.op.operands.toList (moves cfg f o)) = c
          cases c with
          | pure => rfl
          | loc l w => cases w <;> rfl
          | glob w => cases w <;> rfl
        simp only [adraw, hR, hW]
        rw [if_pos ⟨hc.1.1, hc.1.2⟩]
        simp only [astep, ← wantedG_eq, hw, e]
        exact ih _ _ _ _ _ _ h2 hc.2
      · simp at h
      · cases h
    · rename_i hw
      obtain ⟨new, e1, e2⟩ := aopsC_acc _ _ _ _ _ _ h
      subst e1
      simp only [List.reverse_append, List.reverse_cons, List.reverse_nil, List.nil_append, List.cons_append, checkD, Bool.and_eq_true] at hc
      have h2 := e2 []
      simp only [List.append_nil] at h2
      have hR : footR cfg f ops o s = sR f (ops.toList.map (·.dst)) o none := by
        unfold footR sR
        rw [hgt, ← wantedG_eq, hw]
      have hW : footW cfg f ops o s = sW cfg f o none := by
        unfold footW sW
        rw [← wantedG_eq, hw]
      simp only [adraw, hR, hW]
      rw [if_pos ⟨hc.1.1, hc.1.2⟩]
      simp only [astep, ← wantedG_eq, hw]
      exact ih _ _ _ _ _ _ h2 hc.2
    · cases h

/-! ### code -/

theorem WC_mono {b : Nat} {c : Code} {Q Q' : AX → St → Prop} {s : St} (h : WC P cfg call f b c Q s) (hq : ∀ x s, Q x s → Q' x s) : WC P cfg call f b c Q' s := by
  obtain ⟨x, s', h1, h2⟩ := h; exact ⟨x, s', h1, hq _ _ h2⟩

theorem WC_skip {b : Nat} {Q : AX → St → Prop} {s : St} (h : Q .normal s) : WC P cfg call f b .skip Q s := ⟨_, _, rfl, h⟩
theorem WC_exit {b id : Nat} {Q : AX → St → Prop} {s : St} (h : Q (.exit id) s) : WC P cfg call f b (.exit id) Q s := ⟨_, _, rfl, h⟩
theorem WC_ret {b : Nat} {Q : AX → St → Prop} {s : St} (h : Q .ret s) : WC P cfg call f b .ret Q s := ⟨_, _, rfl, h⟩

/-- The way on, where a part of code goes on at all. -/
def Then (K : St → Prop) (Q : AX → St → Prop) : AX → St → Prop
  | .normal, s => K s
  | x, s => Q x s

theorem WC_seq {b : Nat} {c d : Code} {Q : AX → St → Prop} {s : St} (h : ∀ K : St → Prop, (∀ s s', maskSt (liveAt (cfg f).live (codeKey d)) s = some s' → WC P cfg call f b d Q s' → K s) → WC P cfg call f b c (Then K Q) s) : WC P cfg call f b (.seq c d) Q s := by
  obtain ⟨x, s1, h1, h2⟩ := h (fun s => ∃ s', maskSt (liveAt (cfg f).live (codeKey d)) s = some s' ∧ WC P cfg call f b d Q s') fun s s' hm h => ⟨s', hm, h⟩
  cases x with
  | normal => obtain ⟨s', hm, y, s2, h3, h4⟩ := h2; exact ⟨y, s2, by simp only [codeE, h1, hm]; exact h3, h4⟩
  | exit id => exact ⟨_, s1, by simp only [codeE, h1], h2⟩
  | ret => exact ⟨_, s1, by simp only [codeE, h1], h2⟩
  | panic v => exact ⟨_, s1, by simp only [codeE, h1], h2⟩

theorem WC_cond {b : Nat} {x : Operand} {c d : Code} {Q : AX → St → Prop} {s : St} (t : Bool) (hx : aeval s.tmps x = .val (.bool t)) (h1 : t = true → WC P cfg call f b c Q s) (h2 : t = false → WC P cfg call f b d Q s) :
    WC P cfg call f b (.cond x c d) Q s := by
  cases t with
  | true => obtain ⟨y, s', h3, h4⟩ := h1 rfl; exact ⟨y, s', by simp only [codeE, hx]; exact h3, h4⟩
  | false => obtain ⟨y, s', h3, h4⟩ := h2 rfl; exact ⟨y, s', by simp only [codeE, hx]; exact h3, h4⟩

/-- Out of a block. -/
def Out' (id : Nat) (Q : AX → St → Prop) : AX → St → Prop
  | .exit id', s => if id' = id then Q .normal s else Q (.exit id') s
  | x, s => Q x s

theorem WC_block {b id : Nat} {c : Code} {Q : AX → St → Prop} {s : St} (h : WC P cfg call f id c (Out' id Q) s) : WC P cfg call f b (.block id c) Q s := by
  obtain ⟨x, s1, h1, h2⟩ := h
  cases x with
  | exit id' =>
    by_cases e : id' = id
    · simp only [Out', e, if_true] at h2; exact ⟨.normal, s1, by simp only [codeE, h1, e, if_true], h2⟩
    · simp only [Out', e, if_false] at h2; exact ⟨.exit id', s1, by simp only [codeE, h1, e, if_false], h2⟩
  | normal => exact ⟨_, s1, by simp only [codeE, h1], h2⟩
  | ret => exact ⟨_, s1, by simp only [codeE, h1], h2⟩
  | panic v => exact ⟨_, s1, by simp only [codeE, h1], h2⟩

/-- A loop, by what holds at its head (behind the mask) and a measure. -/
theorem WC_loop {b : Nat} {c : Code} {Q : AX → St → Prop} {s : St} (I : Nat → St → Prop) (n : Nat) (h0 : ∃ s0, maskSt (liveAt (cfg f).live b) s = some s0 ∧ I n s0)
    (hr : ∀ n s, I n s → ∀ K : St → Prop, (∀ s' m, m < n → (∃ s0, maskSt (liveAt (cfg f).live b) s' = some s0 ∧ I m s0) → K s') → WC P cfg call f b c (Then K Q) s) : WC P cfg call f b (.loop c) Q s := by
  have key : ∀ n s, (∃ s0, maskSt (liveAt (cfg f).live b) s = some s0 ∧ I n s0) → ∃ x s', loopE (liveAt (cfg f).live b) (codeE P cfg call f b c) s = some (x, s') ∧ Q x s' := by
    intro n
    induction n using Nat.strongRecOn with
    | _ n ih =>
      intro s ⟨s0, hm, hI⟩
      obtain ⟨x, s1, h1, h2⟩ := hr n s0 hI (fun s' => ∃ m, m < n ∧ ∃ s0, maskSt (liveAt (cfg f).live b) s' = some s0 ∧ I m s0) (fun s' m hm h => ⟨m, hm, h⟩)
      cases x with
      | normal =>
        obtain ⟨m, hmn, h3⟩ := h2
        obtain ⟨y, s2, h4, h5⟩ := ih m hmn s1 h3
        exact ⟨y, s2, loopE_step hm h1 h4, h5⟩
      | exit id => exact ⟨_, s1, loopE_end hm h1 (by simp), h2⟩
      | ret => exact ⟨_, s1, loopE_end hm h1 (by simp), h2⟩
      | panic v => exact ⟨_, s1, loopE_end hm h1 (by simp), h2⟩
  obtain ⟨x, s', h1, h2⟩ := key n s h0
  exact ⟨x, s', by simpa only [codeE] using h1, h2⟩

theorem WC_region {b id : Nat} {ops : Array Oper} {Q : AX → St → Prop} {s : St} (h : WO P cfg call f (ops.toList.map (·.dst)) ops.toList [] (fun _ => Q) s) : WC P cfg call f b (.region id ops false) Q s := by
  obtain ⟨x, acc, s', h1, h2⟩ := h
  have := aopsC_aops ops.toList 0 [] s x acc s' (by simp) h1
  exact ⟨x, s', by simpa only [codeE, List.drop_zero] using this, h2⟩

/-- The end of a drawn region: it must be told apart from no other order. -/
def DrawEnd (cfg : FuncId → FCfg) (f : FuncId) (ops : Array Oper) (Q : AX → St → Prop) (acc : List (Option Cls)) : AX → St → Prop
  | .normal, s => checkD cfg f (ops.toList.map (·.dst)) ops.toList acc.reverse 0 [] [] = true ∧ Q .normal s
  | _, _ => False

theorem WC_draw {b id : Nat} {ops : Array Oper} {Q : AX → St → Prop} {s : St} (h : WO P cfg call f (ops.toList.map (·.dst)) ops.toList [] (DrawEnd cfg f ops Q) s) : WC P cfg call f b (.region id ops true) Q s := by
  obtain ⟨x, acc, s', h1, h2⟩ := h
  cases x with
  | normal =>
    obtain ⟨h3, h4⟩ := h2
    have := aopsC_adraw ops.toList 0 [] [] s acc s' h1 h3
    exact ⟨.normal, s', by simp only [codeE, this], h4⟩
  | _ => exact h2.elim

/-! ### operations -/

theorem WO_nil {dsts : List (Option Tmp)} {acc : List (Option Cls)} {Q : List (Option Cls) → AX → St → Prop} {s : St} : WO P cfg call f dsts [] acc Q s = Q acc .normal s :=
  propext ⟨fun ⟨x, a, s', h1, h2⟩ => by simp only [aopsC, Option.some.injEq, Prod.mk.injEq] at h1; obtain ⟨rfl, rfl, rfl⟩ := h1; exact h2, fun h => ⟨_, _, _, rfl, h⟩⟩

variable {dsts : List (Option Tmp)} {r : List Oper} {acc : List (Option Cls)} {Q : List (Option Cls) → AX → St → Prop}

theorem WO_end {s : St} (h : Q acc .normal s) : WO P cfg call f dsts [] acc Q s := ⟨_, _, _, rfl, h⟩

theorem WO_next {o : Oper} {s s' : St} {c : Cls} (hw : wantedG dsts o s.tmps = some true) (h : aop P cfg call f o s = some (.next s'))
    (hc : acls cfg f o (vals s.tmps o.op.operands.toList (moves cfg f o)) = c) (k : WO P cfg call f dsts r (some c :: acc) Q s') : WO P cfg call f dsts (o :: r) acc Q s := by
  unfold WO at *; simp only [aopsC, hw, h, hc]; exact k

theorem WO_panics {o : Oper} {s s' : St} {v : AV} (hw : wantedG dsts o s.tmps = some true) (h : aop P cfg call f o s = some (.panic v s'))
    (k : Q acc (.panic v) s') : WO P cfg call f dsts (o :: r) acc Q s := ⟨_, _, _, by simp only [aopsC, hw, h], k⟩

theorem WO_off {o : Oper} {s s' : St} (hw : wantedG dsts o s.tmps = some false) (h : ({ s with tmps := putT s.tmps o.dst (.val undef) } : St) = s')
    (k : WO P cfg call f dsts r (none :: acc) Q s') : WO P cfg call f dsts (o :: r) acc Q s := by
  subst h; unfold WO at *; simp only [aopsC, hw]; exact k

/-- A call that answers: all but the answer is a matter of counting. -/
theorem aop_call {o : Oper} {s : St} {g : FuncId} {args : List AV} {v : AV} {H' : Heap} {m : RM} {s' : St} {xs : List Operand} {ms : List Bool} {ts : List AV} {n : Bool}
    (ha : call g args .none s.g.H = some ⟨.ret v, m, H'⟩)
    (h : ∀ call' : CallF, call' g args .none s.g.H = some ⟨.ret v, m, H'⟩ → aop P cfg call' f o s = some (.next s')) : aop P cfg call f o s = some (.next s') := h call ha
end
end Go.Eng
end
