/-
  THE ENGINE, part 12: a region whose order is drawn: what the text's order comes to, every order comes to.
-/
import Derived.Test.YtnohjjhgdkpgcaaDoorE11
set_option linter.unusedVariables false
set_option linter.unusedSimpArgs false
namespace Go.Eng

/-- What lies at a place of a frame: 0 what is shared, 2 t + 1 the slot's variable, 2 t + 2 its value. -/
inductive LVal where
  | g (g : G)
  | l (c : Option (Option LCell))
  | t (v : Option AV)

def loc (s : St) (x : Nat) : LVal :=
  if x = 0 then .g s.g else if x % 2 = 1 then .l s.lh[x / 2]? else .t s.tmps[x / 2 - 1]?

theorem loc_t (s : St) (t : Nat) : loc s (2 * t + 2) = .t s.tmps[t]? := by
  unfold loc; rw [if_neg (by omega), if_neg (by omega)]; congr 2; omega
theorem loc_l (s : St) (t : Nat) : loc s (2 * t + 1) = .l s.lh[t]? := by
  unfold loc; rw [if_neg (by omega), if_pos (by omega)]; congr 2; omega
theorem loc_0 (s : St) : loc s 0 = .g s.g := rfl

theorem loc_ext {s s' : St} (h : ∀ x, loc s x = loc s' x) : s = s' := by
  obtain ⟨a, b, c⟩ := s
  obtain ⟨a', b', c'⟩ := s'
  have h0 := h 0
  simp only [loc_0, LVal.g.injEq] at h0
  have h1 : a = a' := List.ext_getElem? fun i => by have := h (2 * i + 2); simpa [loc_t] using this
  have h2 : b = b' := List.ext_getElem? fun i => by have := h (2 * i + 1); simpa [loc_l] using this
  subst h0 h1 h2; rfl

def SameLen (s s' : St) : Prop := s.tmps.length = s'.tmps.length ∧ s.lh.length = s'.lh.length

theorem tmpBits_spec : ∀ (xs : List Operand) (t : Nat), .tmp t ∈ xs → (tmpBits xs).testBit (2 * t + 2) = true
  | .tmp u :: r, t, h => by
    simp only [tmpBits, Nat.testBit_or, Nat.testBit_two_pow, Bool.or_eq_true, decide_eq_true_eq]
    simp only [List.mem_cons] at h
    rcases h with h | h
    · cases h; exact .inl rfl
    · exact .inr (tmpBits_spec r t h)
  | .const v :: r, t, h => by simp only [List.mem_cons] at h; rcases h with h | h; cases h; simpa [tmpBits] using tmpBits_spec r t h
  | .global v :: r, t, h => by simp only [List.mem_cons] at h; rcases h with h | h; cases h; simpa [tmpBits] using tmpBits_spec r t h
  | .func v :: r, t, h => by simp only [List.mem_cons] at h; rcases h with h | h; cases h; simpa [tmpBits] using tmpBits_spec r t h
  | [], t, h => by simp at h

theorem listBits_spec : ∀ (xs : List Tmp) (t : Nat), t ∈ xs → (listBits xs).testBit (2 * t + 2) = true
  | u :: r, t, h => by
    simp only [listBits, Nat.testBit_or, Nat.testBit_two_pow, Bool.or_eq_true, decide_eq_true_eq]
    simp only [List.mem_cons] at h
    rcases h with h | h
    · subst h; exact .inl rfl
    · exact .inr (listBits_spec r t h)
  | [], t, h => by simp at h

section
variable {P : Program} {cfg : FuncId → FCfg} {call : FuncId → List AV → RM → Heap → Option CRes}

theorem aeval_agree {a b : List AV} {x : Operand} (h : ∀ t, x = .tmp t → a[t]? = b[t]?) : aeval a x = aeval b x := by
  cases x with
  | tmp t => simp [aeval, List.getD_eq_getElem?_getD, h t rfl]
  | _ => rfl

theorem vals_agree {a b : List AV} : ∀ (xs : List Operand) (ms : List Bool), (∀ t, .tmp t ∈ xs → a[t]? = b[t]?) → vals a xs ms = vals b xs ms
  | [], ms, _ => by cases ms <;> rfl
  | x :: r, [], h => by simp only [vals]; rw [aeval_agree (fun t e => h t (by simp [e])), vals_agree r [] fun t ht => h t (by simp [ht])]
  | x :: r, m :: ms, h => by simp only [vals]; rw [aeval_agree (fun t e => h t (by simp [e])), vals_agree r ms fun t ht => h t (by simp [ht])]

theorem disT_get (a : List AV) : ∀ (xs : List Operand) (ms : List Bool) (i : Nat), (disT a xs ms)[i]? = if i ∈ movedTmps xs ms then (a[i]?).map AV.dis else a[i]?
  | [], ms, i => by simp [disT, movedTmps]
  | .tmp t :: r, true :: ms, i => by
    simp only [disT, movedTmps]
    rw [disT_get]
    by_cases e : t = i
    · subst e
      simp only [List.getElem?_modify, if_true, List.mem_cons, true_or]
      cases a[t]? with
      | none => simp
      | some v => simp [dis_dis]
    · have : i ≠ t := fun h => e h.symm
      simp [List.getElem?_modify, e, this]
  | .tmp t :: r, false :: ms, i => by simp only [disT, movedTmps]; exact disT_get a r ms i
  | .const _ :: r, m :: ms, i => by cases m <;> (simp only [disT, movedTmps]; exact disT_get a r ms i)
  | .global _ :: r, m :: ms, i => by cases m <;> (simp only [disT, movedTmps]; exact disT_get a r ms i)
  | .func _ :: r, m :: ms, i => by cases m <;> (simp only [disT, movedTmps]; exact disT_get a r ms i)
  | .tmp t :: r, [], i => by simp [disT, movedTmps]
  | .const _ :: r, [], i => by simp [disT, movedTmps]
  | .global _ :: r, [], i => by simp [disT, movedTmps]
  | .func _ :: r, [], i => by simp [disT, movedTmps]

theorem disT_length (a : List AV) : ∀ (xs : List Operand) (ms : List Bool), (disT a xs ms).length = a.length := by
  intro xs
  induction xs generalizing a with
  | nil => intro ms; simp [disT]
  | cons x xs ih =>
    intro ms
    cases ms with
    | nil => cases x <;> rfl
    | cons m ms => cases x <;> cases m <;> simp [disT, ih]

theorem moved_mem : ∀ (xs : List Operand) (ms : List Bool) (t : Tmp), t ∈ movedTmps xs ms → .tmp t ∈ xs
  | .tmp u :: r, true :: ms, t, h => by
    simp only [movedTmps, List.mem_cons] at h
    rcases h with rfl | h
    · simp
    · exact List.mem_cons_of_mem _ (moved_mem r ms t h)
  | .tmp u :: r, false :: ms, t, h => List.mem_cons_of_mem _ (moved_mem r ms t (by simpa [movedTmps] using h))
  | .const _ :: r, m :: ms, t, h => List.mem_cons_of_mem _ (moved_mem r ms t (by cases m <;> simpa [movedTmps] using h))
  | .global _ :: r, m :: ms, t, h => List.mem_cons_of_mem _ (moved_mem r ms t (by cases m <;> simpa [movedTmps] using h))
  | .func _ :: r, m :: ms, t, h => List.mem_cons_of_mem _ (moved_mem r ms t (by cases m <;> simpa [movedTmps] using h))
  | [], ms, t, h => by simp [movedTmps] at h
  | .tmp u :: r, [], t, h => by simp [movedTmps] at h
  | .const _ :: r, [], t, h => by simp [movedTmps] at h
  | .global _ :: r, [], t, h => by simp [movedTmps] at h
  | .func _ :: r, [], t, h => by simp [movedTmps] at h

theorem putT_get (a : List AV) (d : Option Tmp) (v : AV) (i : Nat) : (putT a d v)[i]? = if d = some i then (if i < a.length then some v else none) else a[i]? := by
  cases d with
  | none => simp [putT]
  | some t =>
    simp only [putT, List.getElem?_set, Option.some.injEq]
    by_cases e : t = i
    · subst e; simp
    · simp [e]

theorem wanted_agree {ops : Array Oper} {o : Oper} {a b : List AV} (h : ∀ t, guardTmp ops o = some t → a[t]? = b[t]?) : wantedA ops o a = wantedA ops o b := by
  unfold wantedA
  unfold guardTmp at h
  cases hg : o.guard with
  | none => rfl
  | some p =>
    obtain ⟨j, want⟩ := p
    simp only [hg] at h ⊢
    cases hd : (ops[j]?).bind (·.dst) with
    | none => rfl
    | some t => simp only [h t hd]

theorem aloc_same {f : FuncId} {o : Oper} {vs : List AV} {l : Nat} {c c' : Option LCell} {v : AV} (hcl : acls cfg f o vs = .loc l false) (hp : aloc P cfg f o vs c = some (v, c')) : c' = c := by
  cases hop : o.op <;> simp only [acls, hop] at hcl
  case alloc => split at hcl <;> (try split at hcl) <;> (try split at hcl) <;> simp at hcl
  case box => split at hcl <;> (try split at hcl) <;> (try split at hcl) <;> simp at hcl
  case load t x =>
    split at hcl
    · simp at hcl
    · simp only [Cls.loc.injEq] at hcl
      simp only [aloc, hop] at hp
      split at hp
      · split at hp
        · rename_i hgg
          rw [if_neg (by rw [hcl.2]; simp)] at hp
          simp only [Option.map_eq_some_iff, Prod.mk.injEq] at hp
          obtain ⟨_, _, _, rfl⟩ := hp
          rw [hgg]
        · cases hp
      · cases hp
    · simp at hcl
  case store => split at hcl <;> simp at hcl
  case call c0 => split at hcl <;> simp at hcl
  all_goals (simp at hcl)

theorem aglob_same {f : FuncId} {o : Oper} {vs : List AV} {m m' : G} {v : AV} (hcl : acls cfg f o vs = .glob false) (hp : aglob P cfg call f o vs m = some (.val v m')) : m' = m := by
  cases hop : o.op <;> simp only [acls, hop] at hcl
  case alloc => split at hcl <;> (try split at hcl) <;> (try split at hcl) <;> simp at hcl
  case box => split at hcl <;> (try split at hcl) <;> (try split at hcl) <;> simp at hcl
  case load t x =>
    split at hcl
    · simp only [Cls.glob.injEq] at hcl
      simp only [aglob, hop] at hp
      split at hp
      · rw [if_neg (by rw [hcl]; simp)] at hp
        simp only [Option.map_eq_some_iff, GR.val.injEq] at hp
        obtain ⟨_, _, _, rfl⟩ := hp
        rfl
      · cases hp
    · simp at hcl
    · simp at hcl
  case store => split at hcl <;> simp at hcl
  case call c0 => split at hcl <;> simp at hcl
  all_goals (simp at hcl)

/-- What an operation looks at alone decides what it does, and it writes but its own places. -/
theorem step_local {f : FuncId} {ops : Array Oper} {o : Oper} {s s' t : St} (hl : SameLen s s') (hs : astep P cfg call f ops o s = some (.next t))
    (hR : ∀ x, (footR cfg f ops o s).testBit x = true → loc s x = loc s' x) :
    footR cfg f ops o s' = footR cfg f ops o s ∧ footW cfg f ops o s' = footW cfg f ops o s ∧ SameLen s t ∧ (∀ x, (footW cfg f ops o s).testBit x = false → loc t x = loc s x) ∧
    ∃ t', astep P cfg call f ops o s' = some (.next t') ∧ SameLen s' t' ∧ (∀ x, (footW cfg f ops o s).testBit x = true → loc t' x = loc t x) ∧ (∀ x, (footW cfg f ops o s).testBit x = false → loc t' x = loc s' x) := by
  have hops : ∀ u, .tmp u ∈ o.op.operands.toList → s.tmps[u]? = s'.tmps[u]? := fun u hu => by
    have := hR (2 * u + 2) (by unfold footR; simp only [Nat.testBit_or, tmpBits_spec _ u hu, Bool.true_or])
    simpa [loc_t] using this
  have hgd : ∀ u, guardTmp ops o = some u → s.tmps[u]? = s'.tmps[u]? := fun u hu => by
    have := hR (2 * u + 2) (by unfold footR; simp [Nat.testBit_or, hu, optBit, Nat.testBit_two_pow])
    simpa [loc_t] using this
  have hw := wanted_agree hgd
  have hv : vals s'.tmps o.op.operands.toList (moves cfg f o) = vals s.tmps o.op.operands.toList (moves cfg f o) := (vals_agree _ _ hops).symm
  have eR : footR cfg f ops o s' = footR cfg f ops o s := by unfold footR; rw [← hw, hv]
  have eW : footW cfg f ops o s' = footW cfg f ops o s := by unfold footW; rw [← hw, hv]
  refine ⟨eR, eW, ?_⟩
  have hdW : ∀ u, o.dst = some u → (footW cfg f ops o s).testBit (2 * u + 2) = true := fun u hu => by
    unfold footW; simp [Nat.testBit_or, hu, optBit, Nat.testBit_two_pow]
  have hmW : ∀ u, u ∈ movedTmps o.op.operands.toList (moves cfg f o) → (footW cfg f ops o s).testBit (2 * u + 2) = true := fun u hu => by
    unfold footW; simp only [Nat.testBit_or, listBits_spec _ u hu, Bool.or_true, Bool.true_or]
  have hWi : ∀ x, (footW cfg f ops o s).testBit x = true → (∃ u, x = 2 * u + 2 ∧ (o.dst = some u ∨ u ∈ movedTmps o.op.operands.toList (moves cfg f o))) ∨
      (wantedA ops o s.tmps = some true ∧ ((∃ l, x = 2 * l + 1 ∧ acls cfg f o (vals s.tmps o.op.operands.toList (moves cfg f o)) = .loc l true) ∨ (x = 0 ∧ acls cfg f o (vals s.tmps o.op.operands.toList (moves cfg f o)) = .glob true))) := fun x hx => by
    unfold footW at hx
    simp only [Nat.testBit_or, Bool.or_eq_true] at hx
    rcases hx with (hx | hx) | hx
    · cases hd : o.dst with
      | none => simp [hd, optBit] at hx
      | some u => simp [hd, optBit, Nat.testBit_two_pow] at hx; exact .inl ⟨u, hx.symm, .inl rfl⟩
    · have key : ∀ (l : List Tmp), (listBits l).testBit x = true → ∃ u, x = 2 * u + 2 ∧ u ∈ l := by
        intro l
        induction l with
        | nil => intro h; simp [listBits] at h
        | cons u l ih =>
          intro h
          simp only [listBits, Nat.testBit_or, Nat.testBit_two_pow, Bool.or_eq_true, decide_eq_true_eq] at h
          rcases h with h | h
          · exact ⟨u, h.symm, by simp⟩
          · obtain ⟨z, h1, h2⟩ := ih h; exact ⟨z, h1, by simp [h2]⟩
      obtain ⟨u, h1, h2⟩ := key _ hx
      exact .inl ⟨u, h1, .inr h2⟩
    · right
      split at hx
      · rename_i hw
        refine ⟨hw, ?_⟩
        split at hx
        · rename_i l hc; simp [Nat.testBit_two_pow] at hx; exact .inl ⟨l, hx.symm, hc⟩
        · rename_i hc
          refine .inr ⟨?_, hc⟩
          have : (1 : Nat) = 2 ^ 0 := rfl
          rw [this, Nat.testBit_two_pow] at hx; simp at hx; exact hx.symm
        · simp at hx
      · simp at hx
  have hWl : ∀ l, wantedA ops o s.tmps = some true → acls cfg f o (vals s.tmps o.op.operands.toList (moves cfg f o)) = .loc l true → (footW cfg f ops o s).testBit (2 * l + 1) = true := fun l hw hc => by
    unfold footW; simp [Nat.testBit_or, hw, hc, Nat.testBit_two_pow]
  have hWg : wantedA ops o s.tmps = some true → acls cfg f o (vals s.tmps o.op.operands.toList (moves cfg f o)) = .glob true → (footW cfg f ops o s).testBit 0 = true := fun hw hc => by
    unfold footW; simp [Nat.testBit_or, hw, hc]
  -- the slots behind it
  have hin : ∀ v u, (o.dst = some u ∨ u ∈ movedTmps o.op.operands.toList (moves cfg f o)) →
      (putT (disT s'.tmps o.op.operands.toList (moves cfg f o)) o.dst v)[u]? = (putT (disT s.tmps o.op.operands.toList (moves cfg f o)) o.dst v)[u]? := fun v u hu => by
    rw [putT_get, putT_get, disT_length, disT_length, disT_get, disT_get, hl.1]
    by_cases hd : o.dst = some u
    · simp [hd]
    · have hm := hu.resolve_left hd
      simp only [hd, if_false, hm, if_true, hops u (moved_mem _ _ _ hm)]
  have hout : ∀ v u (a : List AV), o.dst ≠ some u → u ∉ movedTmps o.op.operands.toList (moves cfg f o) → (putT (disT a o.op.operands.toList (moves cfg f o)) o.dst v)[u]? = a[u]? := fun v u a h1 h2 => by
    rw [putT_get, disT_get, if_neg h1, if_neg h2]
  have hin0 : ∀ v u, (o.dst = some u ∨ u ∈ movedTmps o.op.operands.toList (moves cfg f o)) → (putT s'.tmps o.dst v)[u]? = (putT s.tmps o.dst v)[u]? := fun v u hu => by
    rw [putT_get, putT_get, hl.1]
    by_cases hd : o.dst = some u
    · simp [hd]
    · have hm := hu.resolve_left hd
      simp only [hd, if_false, hops u (moved_mem _ _ _ hm)]
  have hlenP : ∀ v (a : List AV), (putT a o.dst v).length = a.length := fun v a => by cases o.dst <;> simp [putT]
  have htodd : ∀ (x : Nat) (q : St), x ≠ 0 → x % 2 = 0 → loc q x = .t q.tmps[x / 2 - 1]? := fun x q h1 h2 => by unfold loc; rw [if_neg h1, if_neg (by omega)]
  have hlodd : ∀ (x : Nat) (q : St), x % 2 = 1 → loc q x = .l q.lh[x / 2]? := fun x q h2 => by unfold loc; rw [if_neg (by omega), if_pos h2]
  -- a step that turns the slots alone
  have hT : ∀ (T T' : List AV), T.length = s.tmps.length → T'.length = s'.tmps.length →
      (∀ u, (o.dst = some u ∨ u ∈ movedTmps o.op.operands.toList (moves cfg f o)) → T'[u]? = T[u]?) → (∀ u, o.dst ≠ some u → u ∉ movedTmps o.op.operands.toList (moves cfg f o) → T[u]? = s.tmps[u]? ∧ T'[u]? = s'.tmps[u]?) →
      ∀ (L L' : List (Option LCell)) (g1 g1' : G), L.length = s.lh.length → L'.length = s'.lh.length →
      (∀ l, (footW cfg f ops o s).testBit (2 * l + 1) = true → L'[l]? = L[l]?) → (∀ l, (footW cfg f ops o s).testBit (2 * l + 1) = false → L[l]? = s.lh[l]? ∧ L'[l]? = s'.lh[l]?) →
      ((footW cfg f ops o s).testBit 0 = true → g1' = g1) → ((footW cfg f ops o s).testBit 0 = false → g1 = s.g ∧ g1' = s'.g) →
      SameLen s ⟨T, L, g1⟩ ∧ (∀ x, (footW cfg f ops o s).testBit x = false → loc ⟨T, L, g1⟩ x = loc s x) ∧
      (SameLen s' ⟨T', L', g1'⟩ ∧ (∀ x, (footW cfg f ops o s).testBit x = true → loc ⟨T', L', g1'⟩ x = loc ⟨T, L, g1⟩ x) ∧ (∀ x, (footW cfg f ops o s).testBit x = false → loc ⟨T', L', g1'⟩ x = loc s' x)) := by
    intro T T' h1 h2 h3 h4 L L' g1 g1' h5 h6 h7 h8 h9 h10
    have hno : ∀ u, (footW cfg f ops o s).testBit (2 * u + 2) = false → o.dst ≠ some u ∧ u ∉ movedTmps o.op.operands.toList (moves cfg f o) := fun u hu => by
      refine ⟨fun h => ?_, fun h => ?_⟩
      · rw [hdW u h] at hu; cases hu
      · rw [hmW u h] at hu; cases hu
    refine ⟨⟨h1.symm, h5.symm⟩, fun x hx => ?_, ⟨h2.symm, h6.symm⟩, fun x hx => ?_, fun x hx => ?_⟩
    · by_cases hx0 : x = 0
      · subst hx0; simp only [loc_0]; rw [(h10 hx).1]
      · by_cases hx1 : x % 2 = 1
        · rw [hlodd x _ hx1, hlodd x _ hx1]
          have : x = 2 * (x / 2) + 1 := by omega
          rw [this] at hx
          simp only [(h8 _ hx).1]
        · rw [htodd x _ hx0 (by omega), htodd x _ hx0 (by omega)]
          have : x = 2 * (x / 2 - 1) + 2 := by omega
          rw [this] at hx
          obtain ⟨k1, k2⟩ := hno _ hx
          simp only [(h4 _ k1 k2).1]
    · by_cases hx0 : x = 0
      · subst hx0; simp only [loc_0]; rw [h9 hx]
      · by_cases hx1 : x % 2 = 1
        · rw [hlodd x _ hx1, hlodd x _ hx1]
          have : x = 2 * (x / 2) + 1 := by omega
          rw [this] at hx
          simp only [h7 _ hx]
        · rw [htodd x _ hx0 (by omega), htodd x _ hx0 (by omega)]
          rcases hWi x hx with ⟨u, e, hu⟩ | ⟨_, ⟨l, e, _⟩ | ⟨e, _⟩⟩
          · have : x / 2 - 1 = u := by omega
            simp only [this, h3 u hu]
          · omega
          · omega
    · by_cases hx0 : x = 0
      · subst hx0; simp only [loc_0]; rw [(h10 hx).2]
      · by_cases hx1 : x % 2 = 1
        · rw [hlodd x _ hx1, hlodd x _ hx1]
          have : x = 2 * (x / 2) + 1 := by omega
          rw [this] at hx
          simp only [(h8 _ hx).2]
        · rw [htodd x _ hx0 (by omega), htodd x _ hx0 (by omega)]
          have : x = 2 * (x / 2 - 1) + 2 := by omega
          rw [this] at hx
          obtain ⟨k1, k2⟩ := hno _ hx
          simp only [(h4 _ k1 k2).2]
  have hT1 : ∀ (v : AV) (L L' : List (Option LCell)) (g1 g1' : G), L.length = s.lh.length → L'.length = s'.lh.length →
      (∀ l, (footW cfg f ops o s).testBit (2 * l + 1) = true → L'[l]? = L[l]?) → (∀ l, (footW cfg f ops o s).testBit (2 * l + 1) = false → L[l]? = s.lh[l]? ∧ L'[l]? = s'.lh[l]?) →
      ((footW cfg f ops o s).testBit 0 = true → g1' = g1) → ((footW cfg f ops o s).testBit 0 = false → g1 = s.g ∧ g1' = s'.g) → _ := fun v =>
    hT (putT (disT s.tmps o.op.operands.toList (moves cfg f o)) o.dst v) (putT (disT s'.tmps o.op.operands.toList (moves cfg f o)) o.dst v) (by rw [hlenP, disT_length]) (by rw [hlenP, disT_length]) (hin v)
      (fun u h1 h2 => ⟨hout v u _ h1 h2, hout v u _ h1 h2⟩)
  unfold astep at hs ⊢
  rw [← hw]
  split at hs
  · rename_i hwt
    unfold aop at hs ⊢
    simp only at hs ⊢
    rw [hv]
    split at hs
    · rename_i hnd
      rw [if_pos hnd]
      split at hs
      · rename_i hcl
        split at hs
        · rename_i v hp
          simp only [Option.some.injEq, SR.next.injEq] at hs; subst hs
          have hnl : ∀ l, (footW cfg f ops o s).testBit (2 * l + 1) = false := fun l => by
            cases hx : (footW cfg f ops o s).testBit (2 * l + 1) with
            | false => rfl
            | true => rcases hWi _ hx with ⟨u, e, _⟩ | ⟨_, ⟨l', e, h⟩ | ⟨e, h⟩⟩ <;> first | omega | (rw [hcl] at h; cases h)
          have hng : (footW cfg f ops o s).testBit 0 = false := by
            cases hx : (footW cfg f ops o s).testBit 0 with
            | false => rfl
            | true => rcases hWi _ hx with ⟨u, e, _⟩ | ⟨_, ⟨l', e, h⟩ | ⟨e, h⟩⟩ <;> first | omega | (rw [hcl] at h; cases h)
          obtain ⟨k1, k2, k3⟩ := hT1 v s.lh s'.lh s.g s'.g rfl rfl (fun l hl => by rw [hnl l] at hl; cases hl) (fun l _ => ⟨rfl, rfl⟩) (fun h => by rw [hng] at h; cases h) (fun _ => ⟨rfl, rfl⟩)
          refine ⟨k1, k2, _, ?_, k3⟩
          rfl
        · cases hs
      · rename_i l wr hcl
        split at hs
        · rename_i c hc
          split at hs
          · rename_i v c' hp
            simp only [Option.some.injEq, SR.next.injEq] at hs; subst hs
            have hRl : (footR cfg f ops o s).testBit (2 * l + 1) = true := by unfold footR; simp [Nat.testBit_or, hwt, hcl, Nat.testBit_two_pow]
            have hc' : s'.lh[l]? = some c := by have := hR _ hRl; simp only [loc_l, LVal.l.injEq] at this; rw [← this]; exact hc
            have hng : (footW cfg f ops o s).testBit 0 = false := by
              cases hx : (footW cfg f ops o s).testBit 0 with
              | false => rfl
              | true => rcases hWi _ hx with ⟨u, e, _⟩ | ⟨_, ⟨l', e, h⟩ | ⟨e, h⟩⟩ <;> first | omega | (rw [hcl] at h; cases h)
            have hsame : wr = false → c' = c := fun hwr => by subst hwr; exact aloc_same hcl hp
            obtain ⟨k1, k2, k3⟩ := hT1 v (s.lh.set l c') (s'.lh.set l c') s.g s'.g (by simp) (by simp)
              (fun l' hl' => by
                rcases hWi _ hl' with ⟨u, e, _⟩ | ⟨_, ⟨l2, e, h⟩ | ⟨e, h⟩⟩
                · omega
                · rw [hcl] at h
                  simp only [Cls.loc.injEq] at h
                  obtain ⟨rfl, _⟩ := h
                  have : l' = l := by omega
                  subst this
                  rw [List.getElem?_set, List.getElem?_set, if_pos rfl, if_pos rfl, hl.2]
                · omega)
              (fun l' hl' => by
                by_cases e : l = l'
                · subst e
                  cases wr with
                  | true => rw [hWl l hwt hcl] at hl'; cases hl'
                  | false => rw [hsame rfl, set_self hc, set_self hc']; exact ⟨rfl, rfl⟩
                · rw [List.getElem?_set_ne e, List.getElem?_set_ne e]; exact ⟨rfl, rfl⟩)
              (fun h => by rw [hng] at h; cases h) (fun _ => ⟨rfl, rfl⟩)
            refine ⟨k1, k2, _, ?_, k3⟩
            simp only [hc', hp]
          · cases hs
        · cases hs
      · rename_i wr hcl
        have hRg : (footR cfg f ops o s).testBit 0 = true := by unfold footR; simp [Nat.testBit_or, hwt, hcl]
        have hg' : s'.g = s.g := by have := hR 0 hRg; simp only [loc_0, LVal.g.injEq] at this; exact this.symm
        split at hs
        · rename_i v g2 hp
          simp only [Option.some.injEq, SR.next.injEq] at hs; subst hs
          have hnl : ∀ l, (footW cfg f ops o s).testBit (2 * l + 1) = false := fun l => by
            cases hx : (footW cfg f ops o s).testBit (2 * l + 1) with
            | false => rfl
            | true => rcases hWi _ hx with ⟨u, e, _⟩ | ⟨_, ⟨l', e, h⟩ | ⟨e, h⟩⟩ <;> first | omega | (rw [hcl] at h; cases h)
          have hsame : wr = false → g2 = s.g := fun hwr => by subst hwr; exact aglob_same hcl hp
          obtain ⟨k1, k2, k3⟩ := hT1 v s.lh s'.lh g2 g2 rfl rfl (fun l hl => by rw [hnl l] at hl; cases hl) (fun l _ => ⟨rfl, rfl⟩) (fun _ => rfl) (fun h => by
            cases wr with
            | true => rw [hWg hwt hcl] at h; cases h
            | false => rw [hg']; exact ⟨hsame rfl, hsame rfl⟩)
          refine ⟨k1, k2, _, ?_, k3⟩
          simp only [hg', hp]
        · cases hs
        · cases hs
    · cases hs
  · rename_i hwf
    simp only [Option.some.injEq, SR.next.injEq] at hs; subst hs
    have hnl : ∀ l, (footW cfg f ops o s).testBit (2 * l + 1) = false := fun l => by
      cases hx : (footW cfg f ops o s).testBit (2 * l + 1) with
      | false => rfl
      | true => rcases hWi _ hx with ⟨u, e, _⟩ | ⟨h, _⟩ <;> first | omega | (rw [hwf] at h; cases h)
    have hng : (footW cfg f ops o s).testBit 0 = false := by
      cases hx : (footW cfg f ops o s).testBit 0 with
      | false => rfl
      | true => rcases hWi _ hx with ⟨u, e, _⟩ | ⟨h, _⟩ <;> first | omega | (rw [hwf] at h; cases h)
    obtain ⟨k1, k2, k3⟩ := hT (putT s.tmps o.dst (.val undef)) (putT s'.tmps o.dst (.val undef)) (hlenP _ _) (hlenP _ _) (hin0 _) (fun u h1 h2 => by rw [putT_get, putT_get, if_neg h1, if_neg h1]; exact ⟨rfl, rfl⟩)
      s.lh s'.lh s.g s'.g rfl rfl (fun l hl => by rw [hnl l] at hl; cases hl) (fun l _ => ⟨rfl, rfl⟩) (fun h => by rw [hng] at h; cases h) (fun _ => ⟨rfl, rfl⟩)
    exact ⟨k1, k2, _, rfl, k3⟩
  · cases hs
end
end Go.Eng
