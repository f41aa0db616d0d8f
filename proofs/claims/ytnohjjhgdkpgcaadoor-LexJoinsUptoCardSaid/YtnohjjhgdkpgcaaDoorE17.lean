/-
  THE ENGINE, part 17: the interpreter without fuel: what comes with enough of it (ev), and that it goes by the code.
-/
import Derived.Test.YtnohjjhgdkpgcaaDoorE16
set_option linter.unusedVariables false
set_option linter.unusedSimpArgs false
namespace Go.Eng

abbrev CallF := FuncId → List AV → RM → Heap → Option CRes
def LeC (a b : CallF) : Prop := ∀ f args rm H r, a f args rm H = some r → b f args rm H = some r

section
variable {P : Program} {cfg : FuncId → FCfg} {a b : CallF}

theorem acallv_mono (h : LeC a b) {g : FuncId} {args : List AV} {m : G} {r : GR} (hr : acallv a g args m = some r) : acallv b g args m = some r := by
  unfold acallv at *
  split at hr
  · cases hr
  · rename_i hlp
    rw [if_neg hlp]
    split at hr
    · rename_i e; rw [h _ _ _ _ _ e]; exact hr
    · rename_i e; rw [h _ _ _ _ _ e]; exact hr
    · cases hr

theorem aglob_mono (h : LeC a b) {f : FuncId} {o : Oper} {vs : List AV} {m : G} {r : GR} (hr : aglob P cfg a f o vs m = some r) : aglob P cfg b f o vs m = some r := by
  unfold aglob at *
  split at hr <;> try exact hr
  split at hr <;> try exact hr
  split at hr
  · exact acallv_mono h hr
  · cases hr

theorem aop_mono (h : LeC a b) {f : FuncId} {o : Oper} {s : St} {r : SR} (hr : aop P cfg a f o s = some r) : aop P cfg b f o s = some r := by
  unfold aop at *
  simp only at *
  split at hr
  · rename_i hn
    rw [if_pos hn]
    split at hr
    · exact hr
    · exact hr
    · split at hr
      · rename_i e; rw [aglob_mono h e]; exact hr
      · rename_i e; rw [aglob_mono h e]; exact hr
      · cases hr
  · cases hr

theorem astep_mono (h : LeC a b) {f : FuncId} {ops : Array Oper} {o : Oper} {s : St} {r : SR} (hr : astep P cfg a f ops o s = some r) : astep P cfg b f ops o s = some r := by
  unfold astep at *
  split at hr
  · exact aop_mono h hr
  · exact hr
  · cases hr

theorem aops_mono (h : LeC a b) {f : FuncId} {ops : Array Oper} : ∀ {l : List Nat} {s : St} {r : AX × St}, aops P cfg a f ops l s = some r → aops P cfg b f ops l s = some r := by
  intro l
  induction l with
  | nil => intro s r hr; exact hr
  | cons i l ih =>
    intro s r hr
    simp only [aops] at *
    split at hr
    · cases hr
    · split at hr
      · rename_i e; rw [astep_mono h e]; exact ih hr
      · rename_i e; rw [astep_mono h e]; exact hr
      · cases hr

theorem adraw_mono (h : LeC a b) {f : FuncId} {ops : Array Oper} : ∀ {l : List Oper} {i : Nat} {ancs : List Nat} {foot : List (Nat × Nat)} {s : St} {r : St}, adraw P cfg a f ops l i ancs foot s = some r → adraw P cfg b f ops l i ancs foot s = some r := by
  intro l
  induction l with
  | nil => intro i ancs foot s r hr; exact hr
  | cons o l ih =>
    intro i ancs foot s r hr
    simp only [adraw] at *
    split at hr
    · rename_i hc
      rw [if_pos hc]
      split at hr
      · rename_i e; rw [astep_mono h e]; exact ih hr
      · cases hr
    · cases hr

theorem aloop_mono {live : Option Nat} {x y : St → Option (AX × St)} (h : ∀ s r, x s = some r → y s = some r) : ∀ {n m : Nat}, n ≤ m → ∀ {s : St} {r : AX × St}, aloop live x n s = some r → aloop live y m s = some r := by
  intro n
  induction n with
  | zero => intro m _ s r hr; simp [aloop] at hr
  | succ n ih =>
    intro m hm s r hr
    obtain ⟨m, rfl⟩ : ∃ k, m = k + 1 := ⟨m - 1, by omega⟩
    simp only [aloop] at *
    split at hr
    · cases hr
    · split at hr
      · rename_i e; rw [h _ _ e]; exact ih (by omega) hr
      · rename_i hne
        rw [h _ _ hr]
        split
        · rename_i e; exact absurd (hr.trans e) (by intro hh; exact hne _ hh)
        · rfl

theorem acode_mono (h : LeC a b) {k k' : Nat} (hk : k ≤ k') {f : FuncId} : ∀ {c : Code} {bid : Nat} {s : St} {r : AX × St}, acode P cfg a k f bid c s = some r → acode P cfg b k' f bid c s = some r := by
  intro c
  induction c with
  | skip => intro bid s r hr; simpa [acode] using hr
  | region id ops d =>
    intro bid s r hr
    cases d with
    | false => simp only [acode] at *; exact aops_mono h hr
    | true =>
      simp only [acode] at *
      split at hr
      · rename_i e; rw [adraw_mono h e]; exact hr
      · cases hr
  | seq x y ihx ihy =>
    intro bid s r hr
    simp only [acode] at *
    split at hr
    · rename_i e
      rw [ihx e]
      simp only
      split at hr
      · rename_i e2; exact ihy hr
      · cases hr
    · rename_i hne
      rw [ihx hr]
      split
      · rename_i e; exact absurd (hr.trans e) (by intro hh; exact hne _ hh)
      · rfl
  | cond c x y ihx ihy =>
    intro bid s r hr
    simp only [acode] at *
    split at hr
    · exact ihx hr
    · exact ihy hr
    · cases hr
  | block id x ih =>
    intro bid s r hr
    simp only [acode] at *
    split at hr
    · rename_i e; rw [ih e]; exact hr
    · rename_i hne
      rw [ih hr]
      split
      · rename_i e; exact absurd (hr.trans e) (by intro hh; exact hne _ _ hh)
      · rfl
  | loop x ih => intro bid s r hr; simp only [acode] at *; exact aloop_mono (fun s r e => ih e) hk hr
  | exit id => intro bid s r hr; simpa [acode] using hr
  | ret => intro bid s r hr; simpa [acode] using hr
  | rangeFunc => intro bid s r hr; simp [acode] at hr
  | scope x ih => intro bid s r hr; simp only [acode] at *; exact ih hr
  | label => intro bid s r hr; simpa [acode] using hr
  | goto => intro bid s r hr; simp [acode] at hr
  | refuse => intro bid s r hr; simp [acode] at hr

theorem adefers_mono (h : LeC a b) : ∀ {l : List ADef} {m : RM} {H : Heap} {r : RM × Heap}, adefers a l m H = some r → adefers b l m H = some r := by
  intro l
  induction l with
  | nil => intro m H r hr; exact hr
  | cons d l ih =>
    intro m H r hr
    simp only [adefers] at *
    split at hr
    · rename_i e; rw [h _ _ _ _ _ e]; exact ih hr
    · rename_i e; rw [h _ _ _ _ _ e]; exact ih hr
    · cases hr

theorem afinish_mono (h : LeC a b) {fn : Func} {s : St} {m : RM} {r : CRes} (hr : afinish P a fn s m = some r) : afinish P b fn s m = some r := by
  unfold afinish at *
  split at hr
  · rename_i e
    split at hr
    · rename_i e2; rw [adefers_mono h e2]; exact hr
    · rename_i e2; rw [adefers_mono h e2]; exact hr
    · cases hr
  · exact hr

theorem abody_mono (h : LeC a b) {k k' : Nat} (hk : k ≤ k') {f : FuncId} {fn : Func} {c : Code} {args : List AV} {rm : RM} {H : Heap} {r : CRes} (hr : abody P cfg a k f fn c args rm H = some r) : abody P cfg b k' f fn c args rm H = some r := by
  unfold abody at *
  split at hr
  · rename_i e; rw [acode_mono h hk e]; exact afinish_mono h hr
  · rename_i e; rw [acode_mono h hk e]; exact afinish_mono h hr
  · rename_i e; rw [acode_mono h hk e]; exact afinish_mono h hr
  · cases hr

theorem acall_step {ext : Ext} : ∀ k, LeC (acall P cfg ext k) (acall P cfg ext (k + 1)) := by
  intro k
  induction k with
  | zero => intro f args rm H r hr; simp [acall] at hr
  | succ k ih =>
    intro f args rm H r hr
    rw [acall] at hr ⊢
    simp only at *
    split at hr
    · exact hr
    · split at hr
      · cases hr
      · split at hr
        · cases hr
        · rw [Option.map_eq_some_iff] at hr ⊢
          obtain ⟨r0, hr, e⟩ := hr
          exact ⟨r0, abody_mono ih (Nat.le_succ k) hr, e⟩

theorem acall_mono {ext : Ext} {k k' : Nat} (h : k ≤ k') : LeC (acall P cfg ext k) (acall P cfg ext k') := by
  induction k' with
  | zero => have : k = 0 := by omega
            subst this; exact fun _ _ _ _ _ h => h
  | succ k' ih =>
    by_cases e : k = k' + 1
    · subst e; exact fun _ _ _ _ _ h => h
    · exact fun f args rm H r hr => acall_step k' f args rm H r (ih (by omega) f args rm H r hr)

open Classical in
/-- What a call comes to with enough fuel. -/
noncomputable def ev (P : Program) (cfg : FuncId → FCfg) (ext : Ext) : CallF := fun f args rm H =>
  if h : ∃ r, ∃ k, acall P cfg ext k f args rm H = some r then some (Classical.choose h) else none

theorem ev_iff {ext : Ext} {f : FuncId} {args : List AV} {rm : RM} {H : Heap} {r : CRes} : ev P cfg ext f args rm H = some r ↔ ∃ k, acall P cfg ext k f args rm H = some r := by
  unfold ev
  constructor
  · intro h
    split at h
    · rename_i hx
      simp only [Option.some.injEq] at h; subst h
      exact Classical.choose_spec hx
    · cases h
  · rintro ⟨k, hk⟩
    have hx : ∃ r, ∃ k, acall P cfg ext k f args rm H = some r := ⟨r, k, hk⟩
    rw [dif_pos hx]
    obtain ⟨k', hk'⟩ := Classical.choose_spec hx
    have h1 := acall_mono (Nat.le_max_left k k') _ _ _ _ _ hk
    have h2 := acall_mono (Nat.le_max_right k k') _ _ _ _ _ hk'
    rw [h1] at h2
    exact congrArg some (Option.some.inj h2).symm

open Classical in
/-- A loop's rounds, as many as it takes. -/
noncomputable def loopE (live : Option Nat) (body : St → Option (AX × St)) (s : St) : Option (AX × St) :=
  if h : ∃ r, ∃ n, aloop live body n s = some r then some (Classical.choose h) else none

theorem loopE_iff {live : Option Nat} {body : St → Option (AX × St)} {s : St} {r : AX × St} : loopE live body s = some r ↔ ∃ n, aloop live body n s = some r := by
  unfold loopE
  constructor
  · intro h
    split at h
    · rename_i hx
      simp only [Option.some.injEq] at h; subst h
      exact Classical.choose_spec hx
    · cases h
  · rintro ⟨k, hk⟩
    have hx : ∃ r, ∃ n, aloop live body n s = some r := ⟨r, k, hk⟩
    rw [dif_pos hx]
    obtain ⟨k', hk'⟩ := Classical.choose_spec hx
    have h1 := aloop_mono (fun _ _ h => h) (Nat.le_max_left k k') hk
    have h2 := aloop_mono (fun _ _ h => h) (Nat.le_max_right k k') hk'
    rw [h1] at h2
    exact congrArg some (Option.some.inj h2).symm

section
variable (P) (cfg) (call : CallF)
/-- Code, without a bound on rounds. -/
noncomputable def codeE (f : FuncId) : (b : Nat) → Code → St → Option (AX × St)
  | _, .skip, s => some (.normal, s)
  | _, .region _ ops false, s => aops P cfg call f ops (List.range ops.size) s
  | _, .region _ ops true, s => match adraw P cfg call f ops ops.toList 0 [] [] s with
    | some s' => some (.normal, s')
    | none => none
  | b, .seq x y, s => match codeE f b x s with
    | some (.normal, s') => match maskSt (liveAt (cfg f).live (codeKey y)) s' with
      | some s2 => codeE f b y s2
      | none => none
    | r => r
  | b, .cond c x y, s => match aeval s.tmps c with
    | .val (.bool true) => codeE f b x s
    | .val (.bool false) => codeE f b y s
    | _ => none
  | _, .block id x, s => match codeE f id x s with
    | some (.exit id', s') => if id' = id then some (.normal, s') else some (.exit id', s')
    | r => r
  | b, .loop x, s => loopE (liveAt (cfg f).live b) (codeE f b x) s
  | _, .exit id, s => some (.exit id, s)
  | _, .ret, s => some (.ret, s)
  | b, .scope x, s => codeE f b x s
  | _, .label _, s => some (.normal, s)
  | _, _, _ => none

noncomputable def bodyE (f : FuncId) (fn : Func) (c : Code) (args : List AV) (rm : RM) (H : Heap) : Option CRes :=
  match codeE P cfg call f 0 c ⟨args ++ List.replicate (fn.ntmps - args.length) (.val undef), List.replicate fn.ntmps none, ⟨H, [], rm, H.length⟩⟩ with
  | some (.normal, s) => afinish P call fn s .returning
  | some (.ret, s) => afinish P call fn s .returning
  | some (.panic v, s) => afinish P call fn s (.panicking v false)
  | _ => none
end

variable {ext : Ext}

theorem ev_get {f : FuncId} {args : List AV} {rm : RM} {H : Heap} {r : CRes} (h : ev P cfg ext f args rm H = some r) : ∃ K, ∀ k, K ≤ k → acall P cfg ext k f args rm H = some r := by
  obtain ⟨K, hK⟩ := ev_iff.1 h
  exact ⟨K, fun k hk => acall_mono hk _ _ _ _ _ hK⟩

theorem acallv_fin {g : FuncId} {args : List AV} {m : G} {r : GR} (hr : acallv (ev P cfg ext) g args m = some r) : ∃ K, ∀ k, K ≤ k → acallv (acall P cfg ext k) g args m = some r := by
  unfold acallv at *
  split at hr
  · cases hr
  · rename_i hlp
    simp only [if_neg hlp]
    split at hr
    · rename_i e; obtain ⟨K, hK⟩ := ev_get e; exact ⟨K, fun k hk => by rw [hK k hk]; exact hr⟩
    · rename_i e; obtain ⟨K, hK⟩ := ev_get e; exact ⟨K, fun k hk => by rw [hK k hk]; exact hr⟩
    · cases hr

theorem aglob_fin {f : FuncId} {o : Oper} {vs : List AV} {m : G} {r : GR} (hr : aglob P cfg (ev P cfg ext) f o vs m = some r) : ∃ K, ∀ k, K ≤ k → aglob P cfg (acall P cfg ext k) f o vs m = some r := by
  unfold aglob at *
  split at hr <;> try exact ⟨0, fun k _ => hr⟩
  split at hr <;> try exact ⟨0, fun k _ => hr⟩
  split at hr
  · exact acallv_fin hr
  · cases hr

theorem aop_fin {f : FuncId} {o : Oper} {s : St} {r : SR} (hr : aop P cfg (ev P cfg ext) f o s = some r) : ∃ K, ∀ k, K ≤ k → aop P cfg (acall P cfg ext k) f o s = some r := by
  unfold aop at *
  simp only at *
  split at hr
  · rename_i hn
    simp only [if_pos hn]
    split at hr
    · exact ⟨0, fun k _ => hr⟩
    · exact ⟨0, fun k _ => hr⟩
    · split at hr
      · rename_i e; obtain ⟨K, hK⟩ := aglob_fin e; exact ⟨K, fun k hk => by rw [hK k hk]; exact hr⟩
      · rename_i e; obtain ⟨K, hK⟩ := aglob_fin e; exact ⟨K, fun k hk => by rw [hK k hk]; exact hr⟩
      · cases hr
  · cases hr

theorem astep_fin {f : FuncId} {ops : Array Oper} {o : Oper} {s : St} {r : SR} (hr : astep P cfg (ev P cfg ext) f ops o s = some r) : ∃ K, ∀ k, K ≤ k → astep P cfg (acall P cfg ext k) f ops o s = some r := by
  unfold astep at *
  split at hr
  · exact aop_fin hr
  · exact ⟨0, fun k _ => hr⟩
  · cases hr

theorem aops_fin {f : FuncId} {ops : Array Oper} : ∀ {l : List Nat} {s : St} {r : AX × St}, aops P cfg (ev P cfg ext) f ops l s = some r → ∃ K, ∀ k, K ≤ k → aops P cfg (acall P cfg ext k) f ops l s = some r := by
  intro l
  induction l with
  | nil => intro s r hr; exact ⟨0, fun k _ => hr⟩
  | cons i l ih =>
    intro s r hr
    simp only [aops] at *
    split at hr
    · cases hr
    · rename_i o ho
      split at hr
      · rename_i e
        obtain ⟨K, hK⟩ := astep_fin e
        obtain ⟨K', hK'⟩ := ih hr
        exact ⟨max K K', fun k hk => by rw [hK k (by omega)]; exact hK' k (by omega)⟩
      · rename_i e
        obtain ⟨K, hK⟩ := astep_fin e
        exact ⟨K, fun k hk => by rw [hK k hk]; exact hr⟩
      · cases hr

theorem adraw_fin {f : FuncId} {ops : Array Oper} : ∀ {l : List Oper} {i : Nat} {ancs : List Nat} {foot : List (Nat × Nat)} {s : St} {r : St}, adraw P cfg (ev P cfg ext) f ops l i ancs foot s = some r → ∃ K, ∀ k, K ≤ k → adraw P cfg (acall P cfg ext k) f ops l i ancs foot s = some r := by
  intro l
  induction l with
  | nil => intro i ancs foot s r hr; exact ⟨0, fun k _ => hr⟩
  | cons o l ih =>
    intro i ancs foot s r hr
    simp only [adraw] at *
    split at hr
    · rename_i hc
      simp only [if_pos hc]
      split at hr
      · rename_i e
        obtain ⟨K, hK⟩ := astep_fin e
        obtain ⟨K', hK'⟩ := ih hr
        exact ⟨max K K', fun k hk => by rw [hK k (by omega)]; exact hK' k (by omega)⟩
      · cases hr
    · cases hr

theorem codeE_fin {f : FuncId} : ∀ {c : Code} {bid : Nat} {s : St} {r : AX × St}, codeE P cfg (ev P cfg ext) f bid c s = some r → ∃ K, ∀ k, K ≤ k → acode P cfg (acall P cfg ext k) k f bid c s = some r := by
  intro c
  induction c with
  | skip => intro bid s r hr; exact ⟨0, fun k _ => by simpa [acode, codeE] using hr⟩
  | region id ops d =>
    intro bid s r hr
    cases d with
    | false => simp only [acode, codeE] at *; exact aops_fin hr
    | true =>
      simp only [acode, codeE] at *
      split at hr
      · rename_i e
        obtain ⟨K, hK⟩ := adraw_fin e
        exact ⟨K, fun k hk => by rw [hK k hk]; exact hr⟩
      · cases hr
  | seq x y ihx ihy =>
    intro bid s r hr
    simp only [acode, codeE] at *
    split at hr
    · rename_i e
      obtain ⟨K, hK⟩ := ihx e
      split at hr
      · rename_i s2 hm
        obtain ⟨K', hK'⟩ := ihy hr
        exact ⟨max K K', fun k hk => by rw [hK k (by omega)]; simp only [hm]; exact hK' k (by omega)⟩
      · cases hr
    · rename_i hne
      obtain ⟨K, hK⟩ := ihx hr
      refine ⟨K, fun k hk => ?_⟩
      rw [hK k hk]
      split
      · rename_i e; exact absurd (hr.trans e) (by intro hh; exact hne _ hh)
      · rfl
  | cond c x y ihx ihy =>
    intro bid s r hr
    simp only [acode, codeE] at *
    split at hr
    · rename_i e; simp only [e]; exact ihx hr
    · rename_i e; simp only [e]; exact ihy hr
    · cases hr
  | block id x ih =>
    intro bid s r hr
    simp only [acode, codeE] at *
    split at hr
    · rename_i e
      obtain ⟨K, hK⟩ := ih e
      exact ⟨K, fun k hk => by rw [hK k hk]; exact hr⟩
    · rename_i hne
      obtain ⟨K, hK⟩ := ih hr
      refine ⟨K, fun k hk => ?_⟩
      rw [hK k hk]
      split
      · rename_i e; exact absurd (hr.trans e) (by intro hh; exact hne _ _ hh)
      · rfl
  | loop x ih =>
    intro bid s r hr
    simp only [acode, codeE] at *
    obtain ⟨n, hn⟩ := loopE_iff.1 hr
    have key : ∀ n s r, aloop (liveAt (cfg f).live bid) (codeE P cfg (ev P cfg ext) f bid x) n s = some r → ∃ K, ∀ k, K ≤ k → aloop (liveAt (cfg f).live bid) (acode P cfg (acall P cfg ext k) k f bid x) n s = some r := by
      intro n
      induction n with
      | zero => intro s r h; simp [aloop] at h
      | succ n ihn =>
        intro s r h
        simp only [aloop] at *
        split at h
        · cases h
        · split at h
          · rename_i e
            obtain ⟨K, hK⟩ := ih e
            obtain ⟨K', hK'⟩ := ihn _ _ h
            exact ⟨max K K', fun k hk => by rw [hK k (by omega)]; exact hK' k (by omega)⟩
          · rename_i hne
            obtain ⟨K, hK⟩ := ih h
            refine ⟨K, fun k hk => ?_⟩
            rw [hK k hk]
            split
            · rename_i e; exact absurd (h.trans e) (by intro hh; exact hne _ hh)
            · rfl
    obtain ⟨K, hK⟩ := key n s r hn
    exact ⟨max K n, fun k hk => aloop_mono (fun _ _ h => h) (by omega) (hK k (by omega))⟩
  | exit id => intro bid s r hr; exact ⟨0, fun k _ => by simpa [acode, codeE] using hr⟩
  | ret => intro bid s r hr; exact ⟨0, fun k _ => by simpa [acode, codeE] using hr⟩
  | rangeFunc => intro bid s r hr; simp [codeE] at hr
  | scope x ih => intro bid s r hr; simp only [codeE] at hr; obtain ⟨K, hK⟩ := ih hr; exact ⟨K, fun k hk => by simp only [acode]; exact hK k hk⟩
  | label => intro bid s r hr; exact ⟨0, fun k _ => by simpa [acode, codeE] using hr⟩
  | goto => intro bid s r hr; simp [codeE] at hr
  | refuse => intro bid s r hr; simp [codeE] at hr

theorem adefers_fin : ∀ {l : List ADef} {m : RM} {H : Heap} {r : RM × Heap}, adefers (ev P cfg ext) l m H = some r → ∃ K, ∀ k, K ≤ k → adefers (acall P cfg ext k) l m H = some r := by
  intro l
  induction l with
  | nil => intro m H r hr; exact ⟨0, fun k _ => hr⟩
  | cons d l ih =>
    intro m H r hr
    simp only [adefers] at *
    split at hr
    · rename_i e
      obtain ⟨K, hK⟩ := ev_get e
      obtain ⟨K', hK'⟩ := ih hr
      exact ⟨max K K', fun k hk => by rw [hK k (by omega)]; exact hK' k (by omega)⟩
    · rename_i e
      obtain ⟨K, hK⟩ := ev_get e
      obtain ⟨K', hK'⟩ := ih hr
      exact ⟨max K K', fun k hk => by rw [hK k (by omega)]; exact hK' k (by omega)⟩
    · cases hr

theorem afinish_fin {fn : Func} {s : St} {m : RM} {r : CRes} (hr : afinish P (ev P cfg ext) fn s m = some r) : ∃ K, ∀ k, K ≤ k → afinish P (acall P cfg ext k) fn s m = some r := by
  unfold afinish at *
  split at hr
  · rename_i e
    split at hr
    · rename_i e2; obtain ⟨K, hK⟩ := adefers_fin e2; exact ⟨K, fun k hk => by rw [hK k hk]; exact hr⟩
    · rename_i e2; obtain ⟨K, hK⟩ := adefers_fin e2; exact ⟨K, fun k hk => by rw [hK k hk]; exact hr⟩
    · cases hr
  · exact ⟨0, fun k _ => hr⟩

/-- A call goes by its function's code. -/
theorem ev_body {f : FuncId} {fn : Func} {c : Code} (hx : ext f = none) (hf : P.funcs[f]? = some fn) (hc : fn.body = some c) {args : List AV} {rm : RM} {H : Heap} {r : CRes} (h : bodyE P cfg (ev P cfg ext) f fn c args rm H = some r) :
    ev P cfg ext f args rm H = some (normRes P (cfg f).norm fn.resultTypes.toList (cutRm rm H.length r)) := by
  have key : ∃ K, ∀ k, K ≤ k → abody P cfg (acall P cfg ext k) k f fn c args rm H = some r := by
    unfold bodyE at h
    unfold abody
    split at h
    · rename_i e
      obtain ⟨K, hK⟩ := codeE_fin e
      obtain ⟨K', hK'⟩ := afinish_fin h
      exact ⟨max K K', fun k hk => by rw [hK k (by omega)]; exact hK' k (by omega)⟩
    · rename_i e
      obtain ⟨K, hK⟩ := codeE_fin e
      obtain ⟨K', hK'⟩ := afinish_fin h
      exact ⟨max K K', fun k hk => by rw [hK k (by omega)]; exact hK' k (by omega)⟩
    · rename_i e
      obtain ⟨K, hK⟩ := codeE_fin e
      obtain ⟨K', hK'⟩ := afinish_fin h
      exact ⟨max K K', fun k hk => by rw [hK k (by omega)]; exact hK' k (by omega)⟩
    · cases h
  obtain ⟨K, hK⟩ := key
  exact ev_iff.2 ⟨K + 1, by rw [acall]; simp only [hx, hf, hc, hK K (Nat.le_refl _), Option.map_some]⟩

theorem cutRes_same {n : Nat} {r : CRes} (h : r.H.length = n) : cutRes n r = r := by
  unfold cutRes
  have : Nat.ble r.H.length n = true := by rw [Nat.ble_eq, h]; exact Nat.le_refl _
  rw [this]

theorem ev_ext {f : FuncId} {e : List AV → Heap → Option (Out × Heap)} (hx : ext f = some e) {args : List AV} {H H' : Heap} {out : Out} (h : e args H = some (out, H')) : ev P cfg ext f args .none H = some ⟨out, .none, H'⟩ :=
  ev_iff.2 ⟨1, by rw [acall]; simp only [hx, h]⟩

theorem loopE_step {live : Option Nat} {body : St → Option (AX × St)} {s s0 s1 : St} {r : AX × St} (hm : maskSt live s = some s0) (hb : body s0 = some (.normal, s1)) (h : loopE live body s1 = some r) : loopE live body s = some r := by
  obtain ⟨n, hn⟩ := loopE_iff.1 h
  exact loopE_iff.2 ⟨n + 1, by simp only [aloop, hm, hb]; exact hn⟩

theorem loopE_end {live : Option Nat} {body : St → Option (AX × St)} {s s0 s1 : St} {x : AX} (hm : maskSt live s = some s0) (hb : body s0 = some (x, s1)) (hx : x ≠ .normal) : loopE live body s = some (x, s1) := by
  refine loopE_iff.2 ⟨1, ?_⟩
  simp only [aloop, hm, hb]
  split
  · rename_i e; cases e; exact absurd rfl hx
  · rfl
end
end Go.Eng
