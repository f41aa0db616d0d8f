/- Texts of this proof folded into one: E17 E18b E24 E25 E26. -/
import Derived.Test.YtmdjdcnabbapgaaGreatDoorJ4
import Derived.ChangeArms
import Derived.ChangeSlices
import Derived.DataReads
import Derived.Below
section
/-
  THE ENGINE, part 17: the interpreter without fuel: what comes with enough of it (ev), and that it goes by the code.
-/
set_option linter.unusedVariables false
set_option linter.unusedSimpArgs false
namespace Go.Eng
abbrev CallF := FuncId → List AV → RM → Heap → Option CRes
def LeC (a b : CallF) : Prop := ∀ f args rm H r, a f args rm H = some r → b f args rm H = some r
section
variable {P : Program} {cfg : FuncId → FCfg} {a b : CallF}
theorem acallv_mono (h : LeC a b) {g : FuncId} {args : List AV} {m : G} {r : GR} (hr : acallv a g args m = some r) : acallv b g args m = some r := by
  unfold acallv at *
  split at hr
  · cases hr
  · rename_i hlp
    rw [if_neg hlp]
    split at hr
    · rename_i e; rw [h _ _ _ _ _ e]; exact hr
    · rename_i e; rw [h _ _ _ _ _ e]; exact hr
    · cases hr
theorem aglob_mono (h : LeC a b) {f : FuncId} {o : Oper} {vs : List AV} {m : G} {r : GR} (hr : aglob P cfg a f o vs m = some r) : aglob P cfg b f o vs m = some r := by
  unfold aglob at *
  split at hr <;> try exact hr
  split at hr <;> try exact hr
  split at hr
  · exact acallv_mono h hr
  · cases hr
theorem aop_mono (h : LeC a b) {f : FuncId} {o : Oper} {s : St} {r : SR} (hr : aop P cfg a f o s = some r) : aop P cfg b f o s = some r := by
  unfold aop at *
  simp only at *
  split at hr
  · rename_i hn
    rw [if_pos hn]
    split at hr
    · exact hr
    · exact hr
    · split at hr
      · rename_i e; rw [aglob_mono h e]; exact hr
      · rename_i e; rw [aglob_mono h e]; exact hr
      · cases hr
  · cases hr
theorem astep_mono (h : LeC a b) {f : FuncId} {ops : Array Oper} {o : Oper} {s : St} {r : SR} (hr : astep P cfg a f ops o s = some r) : astep P cfg b f ops o s = some r := by
  unfold astep at *
  split at hr
  · exact aop_mono h hr
  · exact hr
  · cases hr
theorem aops_mono (h : LeC a b) {f : FuncId} {ops : Array Oper} : ∀ {l : List Nat} {s : St} {r : AX × St}, aops P cfg a f ops l s = some r → aops P cfg b f ops l s = some r := by
  intro l
  induction l with
  | nil => intro s r hr; exact hr
  | cons i l ih =>
    intro s r hr
    simp only [aops] at *
    split at hr
    · cases hr
    · split at hr
      · rename_i e; rw [astep_mono h e]; exact ih hr
      · rename_i e; rw [astep_mono h e]; exact hr
      · cases hr
theorem adraw_mono (h : LeC a b) {f : FuncId} {ops : Array Oper} : ∀ {l : List Oper} {i : Nat} {ancs : List Nat} {foot : List (Nat × Nat)} {s : St} {r : St}, adraw P cfg a f ops l i ancs foot s = some r → adraw P cfg b f ops l i ancs foot s = some r := by
  intro l
  induction l with
  | nil => intro i ancs foot s r hr; exact hr
  | cons o l ih =>
    intro i ancs foot s r hr
    simp only [adraw] at *
    split at hr
    · rename_i hc
      rw [if_pos hc]
      split at hr
      · rename_i e; rw [astep_mono h e]; exact ih hr
      · cases hr
    · cases hr
theorem adrawP_mono (h : LeC a b) {f : FuncId} {ops : Array Oper} : ∀ {l : List Oper} {pv : Option (Nat × AV)} {i : Nat} {ancs : List Nat} {foot : List (Nat × Nat)} {s : St} {r : AV × St}, adrawP P cfg a f ops pv l i ancs foot s = some r → adrawP P cfg b f ops pv l i ancs foot s = some r := by
  intro l
  induction l with
  | nil => intro pv i ancs foot s r hr; cases pv <;> exact hr
  | cons o l ih =>
    intro pv i ancs foot s r hr
    simp only [adrawP] at hr ⊢
    split at hr
    · cases hr
    · rename_i hed
      try simp only [hed]
      split at hr
      · rename_i hb; (try simp only [hb]); exact ih hr
      · rename_i hb
        try simp only [hb]
        split at hr
        · cases hr
        · rename_i hap
          try simp only [hap]
          split at hr
          · rename_i e; simp only [astep_mono h e]; exact ih hr
          · rename_i e
            simp only [astep_mono h e]
            split at hr
            · rename_i hrw; (try simp only [hrw]); exact ih hr
            · cases hr
          · cases hr
/-- Where a region gives up, it does not go on. -/
theorem adrawP_none {f : FuncId} {ops : Array Oper} : ∀ {l : List Oper} {i : Nat} {ancs : List Nat} {foot : List (Nat × Nat)} {s : St} {r : AV × St}, adrawP P cfg a f ops none l i ancs foot s = some r → adraw P cfg a f ops l i ancs foot s = none := by
  intro l
  induction l with
  | nil => intro i ancs foot s r hr; simp [adrawP] at hr
  | cons o l ih =>
    intro i ancs foot s r hr
    simp only [adrawP, behindP] at hr
    simp only [adraw]
    split at hr
    · cases hr
    · rename_i hed
      split at hr
      · cases hr
      · rename_i hap
        rw [if_pos ⟨hed, hap⟩]
        split at hr
        · rename_i e; simp only [e]; exact ih hr
        · rename_i e; simp only [e]
        · cases hr
theorem aloop_mono {live : Option Nat} {x y : St → Option (AX × St)} (h : ∀ s r, x s = some r → y s = some r) : ∀ {n m : Nat}, n ≤ m → ∀ {s : St} {r : AX × St}, aloop live x n s = some r → aloop live y m s = some r := by
  intro n
  induction n with
  | zero => intro m _ s r hr; simp [aloop] at hr
  | succ n ih =>
    intro m hm s r hr
    obtain ⟨m, rfl⟩ : ∃ k, m = k + 1 := ⟨m - 1, by omega⟩
    simp only [aloop] at *
    split at hr
    · cases hr
    · split at hr
      · rename_i e; rw [h _ _ e]; exact ih (by omega) hr
      · rename_i hne
        rw [h _ _ hr]
        split
        · rename_i e; exact absurd (hr.trans e) (by intro hh; exact hne _ hh)
        · rfl
theorem acode_mono (h : LeC a b) {k k' : Nat} (hk : k ≤ k') {f : FuncId} : ∀ {c : Code} {bid : Nat} {s : St} {r : AX × St}, acode P cfg a k f bid c s = some r → acode P cfg b k' f bid c s = some r := by
  intro c
  induction c with
  | skip => intro bid s r hr; simpa [acode] using hr
  | region id ops d =>
    intro bid s r hr
    cases d with
    | false => simp only [acode] at *; exact aops_mono h hr
    | true =>
      simp only [acode] at *
      split at hr
      · rename_i e; rw [adraw_mono h e]; exact hr
      · split at hr
        · rename_i e
          have e2 := adrawP_mono h e
          rw [adrawP_none e2, e2]; exact hr
        · cases hr
  | seq x y ihx ihy =>
    intro bid s r hr
    simp only [acode] at *
    split at hr
    · rename_i e
      rw [ihx e]
      simp only
      split at hr
      · rename_i e2; exact ihy hr
      · cases hr
    · rename_i hne
      rw [ihx hr]
      split
      · rename_i e; exact absurd (hr.trans e) (by intro hh; exact hne _ hh)
      · rfl
  | cond c x y ihx ihy =>
    intro bid s r hr
    simp only [acode] at *
    split at hr
    · exact ihx hr
    · exact ihy hr
    · cases hr
  | block id x ih =>
    intro bid s r hr
    simp only [acode] at *
    split at hr
    · rename_i e; rw [ih e]; exact hr
    · rename_i hne
      rw [ih hr]
      split
      · rename_i e; exact absurd (hr.trans e) (by intro hh; exact hne _ _ hh)
      · rfl
  | loop x ih => intro bid s r hr; simp only [acode] at *; exact aloop_mono (fun s r e => ih e) hk hr
  | exit id => intro bid s r hr; simpa [acode] using hr
  | ret => intro bid s r hr; simpa [acode] using hr
  | rangeFunc => intro bid s r hr; simp [acode] at hr
  | scope x ih => intro bid s r hr; simp only [acode] at *; exact ih hr
  | label => intro bid s r hr; simpa [acode] using hr
  | goto => intro bid s r hr; simp [acode] at hr
  | refuse => intro bid s r hr; simp [acode] at hr
theorem adefers_mono (h : LeC a b) : ∀ {l : List ADef} {m : RM} {H : Heap} {r : RM × Heap}, adefers a l m H = some r → adefers b l m H = some r := by
  intro l
  induction l with
  | nil => intro m H r hr; exact hr
  | cons d l ih =>
    intro m H r hr
    simp only [adefers] at *
    split at hr
    · rename_i e; rw [h _ _ _ _ _ e]; exact ih hr
    · rename_i e; rw [h _ _ _ _ _ e]; exact ih hr
    · cases hr
theorem afinish_mono (h : LeC a b) {fn : Func} {s : St} {m : RM} {r : CRes} (hr : afinish P a fn s m = some r) : afinish P b fn s m = some r := by
  unfold afinish at *
  split at hr
  · rename_i e
    split at hr
    · rename_i e2; rw [adefers_mono h e2]; exact hr
    · rename_i e2; rw [adefers_mono h e2]; exact hr
    · cases hr
  · exact hr
theorem abody_mono (h : LeC a b) {k k' : Nat} (hk : k ≤ k') {f : FuncId} {fn : Func} {c : Code} {args : List AV} {rm : RM} {H : Heap} {r : CRes} (hr : abody P cfg a k f fn c args rm H = some r) : abody P cfg b k' f fn c args rm H = some r := by
  unfold abody at *
  split at hr
  · rename_i e; rw [acode_mono h hk e]; exact afinish_mono h hr
  · rename_i e; rw [acode_mono h hk e]; exact afinish_mono h hr
  · rename_i e; rw [acode_mono h hk e]; exact afinish_mono h hr
  · cases hr
theorem acall_step {ext : Ext} : ∀ k, LeC (acall P cfg ext k) (acall P cfg ext (k + 1)) := by
  intro k
  induction k with
  | zero => intro f args rm H r hr; simp [acall] at hr
  | succ k ih =>
    intro f args rm H r hr
    rw [acall] at hr ⊢
    simp only at *
    split at hr
    · exact hr
    · split at hr
      · cases hr
      · split at hr
        · cases hr
        · rw [Option.map_eq_some_iff] at hr ⊢
          obtain ⟨r0, hr, e⟩ := hr
          exact ⟨r0, abody_mono ih (Nat.le_succ k) hr, e⟩
theorem acall_mono {ext : Ext} {k k' : Nat} (h : k ≤ k') : LeC (acall P cfg ext k) (acall P cfg ext k') := by
  induction k' with
  | zero => have : k = 0 := by omega
            subst this; exact fun _ _ _ _ _ h => h
  | succ k' ih =>
    by_cases e : k = k' + 1
    · subst e; exact fun _ _ _ _ _ h => h
    · exact fun f args rm H r hr => acall_step k' f args rm H r (ih (by omega) f args rm H r hr)
open Classical in
/-- What a call comes to with enough fuel. -/
noncomputable def ev (P : Program) (cfg : FuncId → FCfg) (ext : Ext) : CallF := fun f args rm H =>
  if h : ∃ r, ∃ k, acall P cfg ext k f args rm H = some r then some (Classical.choose h) else none
theorem ev_iff {ext : Ext} {f : FuncId} {args : List AV} {rm : RM} {H : Heap} {r : CRes} : ev P cfg ext f args rm H = some r ↔ ∃ k, acall P cfg ext k f args rm H = some r := by
  unfold ev
  constructor
  · intro h
    split at h
    · rename_i hx
      simp only [Option.some.injEq] at h; subst h
      exact Classical.choose_spec hx
    · cases h
  · rintro ⟨k, hk⟩
    have hx : ∃ r, ∃ k, acall P cfg ext k f args rm H = some r := ⟨r, k, hk⟩
    rw [dif_pos hx]
    obtain ⟨k', hk'⟩ := Classical.choose_spec hx
    have h1 := acall_mono (Nat.le_max_left k k') _ _ _ _ _ hk
    have h2 := acall_mono (Nat.le_max_right k k') _ _ _ _ _ hk'
    rw [h1] at h2
    exact congrArg some (Option.some.inj h2).symm
open Classical in
/-- A loop's rounds, as many as it takes. -/
noncomputable def loopE (live : Option Nat) (body : St → Option (AX × St)) (s : St) : Option (AX × St) :=
  if h : ∃ r, ∃ n, aloop live body n s = some r then some (Classical.choose h) else none
theorem loopE_iff {live : Option Nat} {body : St → Option (AX × St)} {s : St} {r : AX × St} : loopE live body s = some r ↔ ∃ n, aloop live body n s = some r := by
  unfold loopE
  constructor
  · intro h
    split at h
    · rename_i hx
      simp only [Option.some.injEq] at h; subst h
      exact Classical.choose_spec hx
    · cases h
  · rintro ⟨k, hk⟩
    have hx : ∃ r, ∃ n, aloop live body n s = some r := ⟨r, k, hk⟩
    rw [dif_pos hx]
    obtain ⟨k', hk'⟩ := Classical.choose_spec hx
    have h1 := aloop_mono (fun _ _ h => h) (Nat.le_max_left k k') hk
    have h2 := aloop_mono (fun _ _ h => h) (Nat.le_max_right k k') hk'
    rw [h1] at h2
    exact congrArg some (Option.some.inj h2).symm
section
variable (P) (cfg) (call : CallF)
/-- Code, without a bound on rounds. -/
noncomputable def codeE (f : FuncId) : (b : Nat) → Code → St → Option (AX × St)
  | _, .skip, s => some (.normal, s)
  | _, .region _ ops false, s => aops P cfg call f ops (List.range ops.size) s
  | _, .region _ ops true, s => match adraw P cfg call f ops ops.toList 0 [] [] s with
    | some s' => some (.normal, s')
    | none => match adrawP P cfg call f ops none ops.toList 0 [] [] s with
      | some (v, s') => some (.panic v, maskAll s')
      | none => none
  | b, .seq x y, s => match codeE f b x s with
    | some (.normal, s') => match maskSt (liveAt (cfg f).live (codeKey y)) s' with
      | some s2 => codeE f b y s2
      | none => none
    | r => r
  | b, .cond c x y, s => match aeval s.tmps c with
    | .val (.bool true) => codeE f b x s
    | .val (.bool false) => codeE f b y s
    | _ => none
  | _, .block id x, s => match codeE f id x s with
    | some (.exit id', s') => if id' = id then some (.normal, s') else some (.exit id', s')
    | r => r
  | b, .loop x, s => loopE (liveAt (cfg f).live b) (codeE f b x) s
  | _, .exit id, s => some (.exit id, s)
  | _, .ret, s => some (.ret, s)
  | b, .scope x, s => codeE f b x s
  | _, .label _, s => some (.normal, s)
  | _, _, _ => none
noncomputable def bodyE (f : FuncId) (fn : Func) (c : Code) (args : List AV) (rm : RM) (H : Heap) : Option CRes :=
  match codeE P cfg call f 0 c ⟨args ++ List.replicate (fn.ntmps - args.length) (.val undef), List.replicate fn.ntmps none, ⟨H, [], rm, H.length⟩⟩ with
  | some (.normal, s) => afinish P call fn s .returning
  | some (.ret, s) => afinish P call fn s .returning
  | some (.panic v, s) => afinish P call fn s (.panicking v false)
  | _ => none
end
variable {ext : Ext}
theorem ev_get {f : FuncId} {args : List AV} {rm : RM} {H : Heap} {r : CRes} (h : ev P cfg ext f args rm H = some r) : ∃ K, ∀ k, K ≤ k → acall P cfg ext k f args rm H = some r := by
  obtain ⟨K, hK⟩ := ev_iff.1 h
  exact ⟨K, fun k hk => acall_mono hk _ _ _ _ _ hK⟩
theorem acallv_fin {g : FuncId} {args : List AV} {m : G} {r : GR} (hr : acallv (ev P cfg ext) g args m = some r) : ∃ K, ∀ k, K ≤ k → acallv (acall P cfg ext k) g args m = some r := by
  unfold acallv at *
  split at hr
  · cases hr
  · rename_i hlp
    simp only [if_neg hlp]
    split at hr
    · rename_i e; obtain ⟨K, hK⟩ := ev_get e; exact ⟨K, fun k hk => by rw [hK k hk]; exact hr⟩
    · rename_i e; obtain ⟨K, hK⟩ := ev_get e; exact ⟨K, fun k hk => by rw [hK k hk]; exact hr⟩
    · cases hr
theorem aglob_fin {f : FuncId} {o : Oper} {vs : List AV} {m : G} {r : GR} (hr : aglob P cfg (ev P cfg ext) f o vs m = some r) : ∃ K, ∀ k, K ≤ k → aglob P cfg (acall P cfg ext k) f o vs m = some r := by
  unfold aglob at *
  split at hr <;> try exact ⟨0, fun k _ => hr⟩
  split at hr <;> try exact ⟨0, fun k _ => hr⟩
  split at hr
  · exact acallv_fin hr
  · cases hr
theorem aop_fin {f : FuncId} {o : Oper} {s : St} {r : SR} (hr : aop P cfg (ev P cfg ext) f o s = some r) : ∃ K, ∀ k, K ≤ k → aop P cfg (acall P cfg ext k) f o s = some r := by
  unfold aop at *
  simp only at *
  split at hr
  · rename_i hn
    simp only [if_pos hn]
    split at hr
    · exact ⟨0, fun k _ => hr⟩
    · exact ⟨0, fun k _ => hr⟩
    · split at hr
      · rename_i e; obtain ⟨K, hK⟩ := aglob_fin e; exact ⟨K, fun k hk => by rw [hK k hk]; exact hr⟩
      · rename_i e; obtain ⟨K, hK⟩ := aglob_fin e; exact ⟨K, fun k hk => by rw [hK k hk]; exact hr⟩
      · cases hr
  · cases hr
theorem astep_fin {f : FuncId} {ops : Array Oper} {o : Oper} {s : St} {r : SR} (hr : astep P cfg (ev P cfg ext) f ops o s = some r) : ∃ K, ∀ k, K ≤ k → astep P cfg (acall P cfg ext k) f ops o s = some r := by
  unfold astep at *
  split at hr
  · exact aop_fin hr
  · exact ⟨0, fun k _ => hr⟩
  · cases hr
theorem aops_fin {f : FuncId} {ops : Array Oper} : ∀ {l : List Nat} {s : St} {r : AX × St}, aops P cfg (ev P cfg ext) f ops l s = some r → ∃ K, ∀ k, K ≤ k → aops P cfg (acall P cfg ext k) f ops l s = some r := by
  intro l
  induction l with
  | nil => intro s r hr; exact ⟨0, fun k _ => hr⟩
  | cons i l ih =>
    intro s r hr
    simp only [aops] at *
    split at hr
    · cases hr
    · rename_i o ho
      split at hr
      · rename_i e
        obtain ⟨K, hK⟩ := astep_fin e
        obtain ⟨K', hK'⟩ := ih hr
        exact ⟨max K K', fun k hk => by rw [hK k (by omega)]; exact hK' k (by omega)⟩
      · rename_i e
        obtain ⟨K, hK⟩ := astep_fin e
        exact ⟨K, fun k hk => by rw [hK k hk]; exact hr⟩
      · cases hr
theorem adraw_fin {f : FuncId} {ops : Array Oper} : ∀ {l : List Oper} {i : Nat} {ancs : List Nat} {foot : List (Nat × Nat)} {s : St} {r : St}, adraw P cfg (ev P cfg ext) f ops l i ancs foot s = some r → ∃ K, ∀ k, K ≤ k → adraw P cfg (acall P cfg ext k) f ops l i ancs foot s = some r := by
  intro l
  induction l with
  | nil => intro i ancs foot s r hr; exact ⟨0, fun k _ => hr⟩
  | cons o l ih =>
    intro i ancs foot s r hr
    simp only [adraw] at *
    split at hr
    · rename_i hc
      simp only [if_pos hc]
      split at hr
      · rename_i e
        obtain ⟨K, hK⟩ := astep_fin e
        obtain ⟨K', hK'⟩ := ih hr
        exact ⟨max K K', fun k hk => by rw [hK k (by omega)]; exact hK' k (by omega)⟩
      · cases hr
    · cases hr
theorem adrawP_fin {f : FuncId} {ops : Array Oper} : ∀ {l : List Oper} {pv : Option (Nat × AV)} {i : Nat} {ancs : List Nat} {foot : List (Nat × Nat)} {s : St} {r : AV × St}, adrawP P cfg (ev P cfg ext) f ops pv l i ancs foot s = some r → ∃ K, ∀ k, K ≤ k → adrawP P cfg (acall P cfg ext k) f ops pv l i ancs foot s = some r := by
  intro l
  induction l with
  | nil => intro pv i ancs foot s r hr; cases pv <;> exact ⟨0, fun k _ => hr⟩
  | cons o l ih =>
    intro pv i ancs foot s r hr
    simp only [adrawP] at hr ⊢
    split at hr
    · cases hr
    · rename_i hed
      try simp only [hed]
      split at hr
      · rename_i hb; (try simp only [hb]); exact ih hr
      · rename_i hb
        try simp only [hb]
        split at hr
        · cases hr
        · rename_i hap
          try simp only [hap]
          split at hr
          · rename_i e
            obtain ⟨K, hK⟩ := astep_fin e
            obtain ⟨K', hK'⟩ := ih hr
            exact ⟨max K K', fun k hk => by rw [hK k (by omega)]; exact hK' k (by omega)⟩
          · rename_i e
            obtain ⟨K, hK⟩ := astep_fin e
            split at hr
            · rename_i hrw
              obtain ⟨K', hK'⟩ := ih hr
              exact ⟨max K K', fun k hk => by rw [hK k (by omega)]; (try simp only [hrw]); exact hK' k (by omega)⟩
            · cases hr
          · cases hr
theorem codeE_fin {f : FuncId} : ∀ {c : Code} {bid : Nat} {s : St} {r : AX × St}, codeE P cfg (ev P cfg ext) f bid c s = some r → ∃ K, ∀ k, K ≤ k → acode P cfg (acall P cfg ext k) k f bid c s = some r := by
  intro c
  induction c with
  | skip => intro bid s r hr; exact ⟨0, fun k _ => by simpa [acode, codeE] using hr⟩
  | region id ops d =>
    intro bid s r hr
    cases d with
    | false => simp only [acode, codeE] at *; exact aops_fin hr
    | true =>
      simp only [acode, codeE] at *
      split at hr
      · rename_i e
        obtain ⟨K, hK⟩ := adraw_fin e
        exact ⟨K, fun k hk => by rw [hK k hk]; exact hr⟩
      · split at hr
        · rename_i e
          obtain ⟨K, hK⟩ := adrawP_fin e
          exact ⟨K, fun k hk => by rw [adrawP_none (hK k hk), hK k hk]; exact hr⟩
        · cases hr
  | seq x y ihx ihy =>
    intro bid s r hr
    simp only [acode, codeE] at *
    split at hr
    · rename_i e
      obtain ⟨K, hK⟩ := ihx e
      split at hr
      · rename_i s2 hm
        obtain ⟨K', hK'⟩ := ihy hr
        exact ⟨max K K', fun k hk => by rw [hK k (by omega)]; simp only [hm]; exact hK' k (by omega)⟩
      · cases hr
    · rename_i hne
      obtain ⟨K, hK⟩ := ihx hr
      refine ⟨K, fun k hk => ?_⟩
      rw [hK k hk]
      split
      · rename_i e; exact absurd (hr.trans e) (by intro hh; exact hne _ hh)
      · rfl
  | cond c x y ihx ihy =>
    intro bid s r hr
    simp only [acode, codeE] at *
    split at hr
    · rename_i e; simp only [e]; exact ihx hr
    · rename_i e; simp only [e]; exact ihy hr
    · cases hr
  | block id x ih =>
    intro bid s r hr
    simp only [acode, codeE] at *
    split at hr
    · rename_i e
      obtain ⟨K, hK⟩ := ih e
      exact ⟨K, fun k hk => by rw [hK k hk]; exact hr⟩
    · rename_i hne
      obtain ⟨K, hK⟩ := ih hr
      refine ⟨K, fun k hk => ?_⟩
      rw [hK k hk]
      split
      · rename_i e; exact absurd (hr.trans e) (by intro hh; exact hne _ _ hh)
      · rfl
  | loop x ih =>
    intro bid s r hr
    simp only [acode, codeE] at *
    obtain ⟨n, hn⟩ := loopE_iff.1 hr
    have key : ∀ n s r, aloop (liveAt (cfg f).live bid) (codeE P cfg (ev P cfg ext) f bid x) n s = some r → ∃ K, ∀ k, K ≤ k → aloop (liveAt (cfg f).live bid) (acode P cfg (acall P cfg ext k) k f bid x) n s = some r := by
      intro n
      induction n with
      | zero => intro s r h; simp [aloop] at h
      | succ n ihn =>
        intro s r h
        simp only [aloop] at *
        split at h
        · cases h
        · split at h
          · rename_i e
            obtain ⟨K, hK⟩ := ih e
            obtain ⟨K', hK'⟩ := ihn _ _ h
            exact ⟨max K K', fun k hk => by rw [hK k (by omega)]; exact hK' k (by omega)⟩
          · rename_i hne
            obtain ⟨K, hK⟩ := ih h
            refine ⟨K, fun k hk => ?_⟩
            rw [hK k hk]
            split
            · rename_i e; exact absurd (h.trans e) (by intro hh; exact hne _ hh)
            · rfl
    obtain ⟨K, hK⟩ := key n s r hn
    exact ⟨max K n, fun k hk => aloop_mono (fun _ _ h => h) (by omega) (hK k (by omega))⟩
  | exit id => intro bid s r hr; exact ⟨0, fun k _ => by simpa [acode, codeE] using hr⟩
  | ret => intro bid s r hr; exact ⟨0, fun k _ => by simpa [acode, codeE] using hr⟩
  | rangeFunc => intro bid s r hr; simp [codeE] at hr
  | scope x ih => intro bid s r hr; simp only [codeE] at hr; obtain ⟨K, hK⟩ := ih hr; exact ⟨K, fun k hk => by simp only [acode]; exact hK k hk⟩
  | label => intro bid s r hr; exact ⟨0, fun k _ => by simpa [acode, codeE] using hr⟩
  | goto => intro bid s r hr; simp [codeE] at hr
  | refuse => intro bid s r hr; simp [codeE] at hr
theorem adefers_fin : ∀ {l : List ADef} {m : RM} {H : Heap} {r : RM × Heap}, adefers (ev P cfg ext) l m H = some r → ∃ K, ∀ k, K ≤ k → adefers (acall P cfg ext k) l m H = some r := by
  intro l
  induction l with
  | nil => intro m H r hr; exact ⟨0, fun k _ => hr⟩
  | cons d l ih =>
    intro m H r hr
    simp only [adefers] at *
    split at hr
    · rename_i e
      obtain ⟨K, hK⟩ := ev_get e
      obtain ⟨K', hK'⟩ := ih hr
      exact ⟨max K K', fun k hk => by rw [hK k (by omega)]; exact hK' k (by omega)⟩
    · rename_i e
      obtain ⟨K, hK⟩ := ev_get e
      obtain ⟨K', hK'⟩ := ih hr
      exact ⟨max K K', fun k hk => by rw [hK k (by omega)]; exact hK' k (by omega)⟩
    · cases hr
theorem afinish_fin {fn : Func} {s : St} {m : RM} {r : CRes} (hr : afinish P (ev P cfg ext) fn s m = some r) : ∃ K, ∀ k, K ≤ k → afinish P (acall P cfg ext k) fn s m = some r := by
  unfold afinish at *
  split at hr
  · rename_i e
    split at hr
    · rename_i e2; obtain ⟨K, hK⟩ := adefers_fin e2; exact ⟨K, fun k hk => by rw [hK k hk]; exact hr⟩
    · rename_i e2; obtain ⟨K, hK⟩ := adefers_fin e2; exact ⟨K, fun k hk => by rw [hK k hk]; exact hr⟩
    · cases hr
  · exact ⟨0, fun k _ => hr⟩
/-- A call goes by its function's code. -/
theorem ev_body {f : FuncId} {fn : Func} {c : Code} (hx : ext f = none) (hf : P.funcs[f]? = some fn) (hc : fn.body = some c) {args : List AV} {rm : RM} {H : Heap} {r : CRes} (h : bodyE P cfg (ev P cfg ext) f fn c args rm H = some r) :
    ev P cfg ext f args rm H = some (normRes P (cfg f).norm fn.resultTypes.toList (cutRm rm H.length r)) := by
  have key : ∃ K, ∀ k, K ≤ k → abody P cfg (acall P cfg ext k) k f fn c args rm H = some r := by
    unfold bodyE at h
    unfold abody
    split at h
    · rename_i e
      obtain ⟨K, hK⟩ := codeE_fin e
      obtain ⟨K', hK'⟩ := afinish_fin h
      exact ⟨max K K', fun k hk => by rw [hK k (by omega)]; exact hK' k (by omega)⟩
    · rename_i e
      obtain ⟨K, hK⟩ := codeE_fin e
      obtain ⟨K', hK'⟩ := afinish_fin h
      exact ⟨max K K', fun k hk => by rw [hK k (by omega)]; exact hK' k (by omega)⟩
    · rename_i e
      obtain ⟨K, hK⟩ := codeE_fin e
      obtain ⟨K', hK'⟩ := afinish_fin h
      exact ⟨max K K', fun k hk => by rw [hK k (by omega)]; exact hK' k (by omega)⟩
    · cases h
  obtain ⟨K, hK⟩ := key
  exact ev_iff.2 ⟨K + 1, by rw [acall]; simp only [hx, hf, hc, hK K (Nat.le_refl _), Option.map_some]⟩
theorem ev_ext {f : FuncId} {e : List AV → Heap → Option (Out × Heap)} (hx : ext f = some e) {args : List AV} {H H' : Heap} {out : Out} (h : e args H = some (out, H')) : ev P cfg ext f args .none H = some ⟨out, .none, H'⟩ :=
  ev_iff.2 ⟨1, by rw [acall]; simp only [hx, h]⟩
theorem loopE_step {live : Option Nat} {body : St → Option (AX × St)} {s s0 s1 : St} {r : AX × St} (hm : maskSt live s = some s0) (hb : body s0 = some (.normal, s1)) (h : loopE live body s1 = some r) : loopE live body s = some r := by
  obtain ⟨n, hn⟩ := loopE_iff.1 h
  exact loopE_iff.2 ⟨n + 1, by simp only [aloop, hm, hb]; exact hn⟩
theorem loopE_end {live : Option Nat} {body : St → Option (AX × St)} {s s0 s1 : St} {x : AX} (hm : maskSt live s = some s0) (hb : body s0 = some (x, s1)) (hx : x ≠ .normal) : loopE live body s = some (x, s1) := by
  refine loopE_iff.2 ⟨1, ?_⟩
  simp only [aloop, hm, hb]
  split
  · rename_i e; cases e; exact absurd rfl hx
  · rfl
end
end Go.Eng
end

section
/-
  THE ENGINE, part 18b: what comes in: a world's cells as memory that nobody writes.
-/
set_option linter.unusedVariables false
set_option linter.unusedSimpArgs false
namespace Go.Eng
def memOf (w : World) : Mem := fun b o => match w.cell? ⟨b, o, none⟩ with
  | some v => if v.oneCell' = true then some v else none
  | none => none
theorem memOf_ok (w : World) : ImmOk (memOf w) w := by
  intro b o v h
  unfold memOf at h
  split at h
  · rename_i e
    split at h
    · rename_i h1
      simp only [Option.some.injEq] at h; subst h
      exact ⟨e, h1⟩
    · cases h
  · cases h
theorem memOf_at {w : World} {b o : Nat} {v : Value} (h : w.cell? ⟨b, o, none⟩ = some v) (h1 : v.oneCell' = true) : memOf w b o = some v := by
  unfold memOf; simp only [h, h1, if_true]
theorem hinv0 (w : World) : HInv (memOf w) [] [] w [] := ⟨memOf_ok w, rfl, rfl, fun id b ws cs h => by simp at h⟩
end Go.Eng
end

section
/-
  THE ENGINE, part 24: from what the interpreter says of a function to what the model's call does.
-/
set_option linter.unusedVariables false
set_option linter.unusedSimpArgs false
namespace Go.Eng
open Go.RowKit
theorem tcs_noOwn (b : Nat) : ∀ (vs : List Value) (as : List AV), (∀ a ∈ as, NoOwn a) → tcs b vs as = 0
  | [], _, _ => by simp [tcs, zsum]
  | _ :: _, [], _ => by simp [tcs, zsum]
  | v :: vs, a :: as, h => by
    have h1 := (h a (by simp)).tc b v
    have h2 := tcs_noOwn b vs as (fun x hx => h x (by simp [hx]))
    simp only [tcs, zsum] at h2 ⊢
    omega
theorem ev_calls {P : Program} {cfg : FuncId → FCfg} {ext : Ext} {I0 : Mem} {f : FuncId} {args : List AV} {W : World} {cargs : Array Value} {v : Value} {m : RM} {H' : Heap} (hmix : P.follows .mixedOrders = true)
    (hng : (P.funcs.toList.all fun fn => !(fn.name == "runtime.NumGoroutine")) = true) (h : ev P cfg ext f args .none [] = some ⟨.ret (.val v), m, H'⟩) (hext : ExtSound P I0 ext) (hextb : ∀ (f : FuncId) e, ext f = some e → ∃ (fn : Func) (c : Code), P.funcs[f]? = some fn ∧ fn.body = some c) (hI : LeM I0 (memOf W))
    (hr : RepL (memOf W) [] cargs.toList args) (hno : ∀ a ∈ args, NoOwn a) : Calls P f cargs W fun e W' => e = .returned v ∧ Below W.heap.size W W' := by
  obtain ⟨k, hk⟩ := ev_iff.1 h
  have hng' : ∀ (f : FuncId) (fn : Func), P.funcs[f]? = some fn → (fn.name == "runtime.NumGoroutine") = false := by
    intro f fn hf
    have := List.all_eq_true.1 hng fn (Array.mem_toList_iff.2 (Array.mem_of_getElem? hf))
    simpa using this
  have h0 : ∀ b, argTok [] [] [] cargs.toList args b = 0 := by
    intro b
    unfold argTok
    rw [tcs_noOwn b _ _ hno]
    first | done | simp [tcss, zsum]
  obtain ⟨_, hc⟩ := acall_sound (cfg := cfg) hmix hng' hext hextb k f args .none [] _ hk (memOf W) [] [] W cargs.toList hI (hinv0 W) hr
    (fun i v a _ ha => (hno a (List.mem_of_getElem? ha)).spare W v) (fun b => by rw [h0 b]; omega)
  simp only at hc
  refine hc.mono fun e W' ⟨J, ν, HV', hp⟩ => ?_
  obtain ⟨v', rfl, hv, _⟩ := hp.outr
  have hvv : v' = v := by cases hv; rfl
  refine ⟨by rw [hvv], hp.eff.os, hp.eff.tape, hp.eff.output, hp.eff.size, fun k hk => hp.eff.keep k hk fun h => ?_⟩
  rw [h0 k] at h; omega
end Go.Eng
end

section
/-
  THE ENGINE, part 25: pointers under other names: values.
-/
set_option linter.unusedVariables false
set_option linter.unusedSimpArgs false
namespace Go.Eng
mutual
def AV.ren (ρ : Nat → Nat) : AV → AV
  | .any => .any
  | .val v => .val v
  | .slice sz rows own => .slice sz (renss ρ rows) own
  | .ref cs => .ref (rens ρ cs)
  | .ptr id off => .ptr (ρ id) off
  | .lp t g o => .lp t g o
  | .func fn a b => .func fn (rens ρ a) (rens ρ b)
  | .iface t v => .iface t (v.ren ρ)
  | .agg cs => .agg (rens ρ cs)
  | .tuple vs => .tuple (rens ρ vs)
def rens (ρ : Nat → Nat) : List AV → List AV
  | [] => []
  | a :: l => a.ren ρ :: rens ρ l
def renss (ρ : Nat → Nat) : List (List AV) → List (List AV)
  | [] => []
  | a :: l => rens ρ a :: renss ρ l
end
section
variable {ρ : Nat → Nat}
theorem rens_map : ∀ l : List AV, rens ρ l = l.map (AV.ren ρ)
  | [] => rfl
  | a :: l => by rw [rens, rens_map l, List.map_cons]
theorem renss_map : ∀ l : List (List AV), renss ρ l = l.map (List.map (AV.ren ρ))
  | [] => rfl
  | a :: l => by rw [renss, renss_map l, List.map_cons, rens_map]
@[simp] theorem ren_any : AV.ren ρ .any = .any := rfl
@[simp] theorem ren_val (v : Value) : AV.ren ρ (.val v) = .val v := rfl
@[simp] theorem ren_slice (sz : Nat) (rows : List (List AV)) (own : Own) : AV.ren ρ (.slice sz rows own) = .slice sz (rows.map (List.map (AV.ren ρ))) own := by rw [AV.ren, renss_map]
@[simp] theorem ren_ref (cs : List AV) : AV.ren ρ (.ref cs) = .ref (cs.map (AV.ren ρ)) := by rw [AV.ren, rens_map]
@[simp] theorem ren_ptr (id off : Nat) : AV.ren ρ (.ptr id off) = .ptr (ρ id) off := rfl
@[simp] theorem ren_lp (t g o : Nat) : AV.ren ρ (.lp t g o) = .lp t g o := rfl
@[simp] theorem ren_func (fn : Fn) (a b : List AV) : AV.ren ρ (.func fn a b) = .func fn (a.map (AV.ren ρ)) (b.map (AV.ren ρ)) := by rw [AV.ren, rens_map, rens_map]
@[simp] theorem ren_iface (t : TypeId) (v : AV) : AV.ren ρ (.iface t v) = .iface t (v.ren ρ) := rfl
@[simp] theorem ren_agg (cs : List AV) : AV.ren ρ (.agg cs) = .agg (cs.map (AV.ren ρ)) := by rw [AV.ren, rens_map]
@[simp] theorem ren_tuple (cs : List AV) : AV.ren ρ (.tuple cs) = .tuple (cs.map (AV.ren ρ)) := by rw [AV.ren, rens_map]
@[simp] theorem ren_dis (v : AV) : v.dis.ren ρ = (v.ren ρ).dis := by
  cases v with
  | slice sz rows own => cases own <;> simp [AV.dis]
  | _ => simp [AV.dis]
theorem ren_dis_map (l : List AV) : (l.map AV.dis).map (AV.ren ρ) = (l.map (AV.ren ρ)).map AV.dis := by
  simp only [List.map_map]; exact List.map_congr_left fun a _ => ren_dis a
theorem ren_cells (v : AV) : (v.ren ρ).cells = v.cells.map (List.map (AV.ren ρ)) := by
  cases v with
  | val v => cases v <;> simp [AV.cells]
  | _ => simp [AV.cells]
theorem ren_cells' (v : AV) : (v.ren ρ).cells.map (List.map AV.dis) = (v.cells.map (List.map AV.dis)).map (List.map (AV.ren ρ)) := by
  rw [ren_cells]
  cases v.cells with
  | none => rfl
  | some l => simp only [Option.map_some, ren_dis_map]
theorem ren_scells (v : AV) : (v.ren ρ).scells = v.scells.map (List.map (AV.ren ρ)) := by
  cases v with
  | slice sz rows own => simp [AV.scells]
  | val v => simp only [ren_val, AV.scells]; exact ren_cells' (.val v)
  | any => simp only [AV.scells]; exact ren_cells' .any
  | ref cs => have := ren_cells' (ρ := ρ) (.ref cs); simp only [ren_ref] at this ⊢; simpa only [AV.scells] using this
  | ptr a b => have := ren_cells' (ρ := ρ) (.ptr a b); simp only [ren_ptr] at this ⊢; simpa only [AV.scells] using this
  | lp a b c => have := ren_cells' (ρ := ρ) (.lp a b c); simp only [ren_lp] at this ⊢; simpa only [AV.scells] using this
  | func a b c => have := ren_cells' (ρ := ρ) (.func a b c); simp only [ren_func] at this ⊢; simpa only [AV.scells] using this
  | iface a b => have := ren_cells' (ρ := ρ) (.iface a b); simp only [ren_iface] at this ⊢; simpa only [AV.scells] using this
  | agg a => have := ren_cells' (ρ := ρ) (.agg a); simp only [ren_agg] at this ⊢; simpa only [AV.scells] using this
  | tuple a => have := ren_cells' (ρ := ρ) (.tuple a); simp only [ren_tuple] at this ⊢; simpa only [AV.scells] using this
@[simp] theorem ren_cellsVal : ∀ l : List AV, cellsVal (l.map (AV.ren ρ)) = cellsVal l
  | [] => rfl
  | a :: l => by cases a <;> simp [cellsVal, ren_cellsVal l]
@[simp] theorem ren_toVal (v : AV) : (v.ren ρ).toVal = v.toVal := by
  cases v with
  | iface t v => cases v <;> simp [AV.toVal]
  | _ => simp [AV.toVal]
@[simp] theorem ren_isLp (v : AV) : (v.ren ρ).isLp = v.isLp := by cases v <;> simp [AV.isLp]
@[simp] theorem ren_anyLp (l : List AV) : (l.map (AV.ren ρ)).any AV.isLp = l.any AV.isLp := by
  induction l with
  | nil => rfl
  | cons a l ih => simp only [List.map_cons, List.any_cons, ren_isLp, ih]
@[simp] theorem ren_vals (l : List Value) : (l.map AV.val).map (AV.ren ρ) = l.map AV.val := by
  simp only [List.map_map]; exact List.map_congr_left fun a _ => rfl
@[simp] theorem ren_ofCell (v : Value) : (ofCell v).ren ρ = ofCell v := by
  unfold ofCell; split <;> simp only [ren_slice, ren_func, ren_val, ren_vals, List.map_nil]
@[simp] theorem ren_ofCells (l : List Value) : (l.map ofCell).map (AV.ren ρ) = l.map ofCell := by
  simp only [List.map_map]; exact List.map_congr_left fun a _ => ren_ofCell a
@[simp] theorem ren_ofVal (v : Value) : (ofVal v).ren ρ = ofVal v := by
  unfold ofVal
  split
  · split
    · simp only [ren_agg, ren_ofCells]
    · rfl
  · exact ren_ofCell v
theorem getD_ren (s : List AV) (t : Nat) : (s.map (AV.ren ρ)).getD t .any = (s.getD t .any).ren ρ := by
  simp only [List.getD_eq_getElem?_getD, List.getElem?_map]
  cases s[t]? <;> rfl
theorem ren_aeval (s : List AV) (x : Operand) : aeval (s.map (AV.ren ρ)) x = (aeval s x).ren ρ := by
  cases x with
  | tmp t => exact getD_ren s t
  | const v => simp [aeval]
  | _ => simp [aeval]
theorem ren_writeCells : ∀ (new cs : List AV) (off : Nat), writeCells (cs.map (AV.ren ρ)) off (new.map (AV.ren ρ)) = (writeCells cs off new).map (AV.ren ρ)
  | [], cs, off => rfl
  | v :: r, cs, off => by simp only [List.map_cons, writeCells, ← List.map_set, ren_writeCells r]
section
variable {P : Program}
theorem ren_zeroCells {t : TypeId} : (zeroCells P t).map (List.map (AV.ren ρ)) = zeroCells P t := by
  unfold zeroCells
  split
  · split
    · simp only [Option.map_some, ren_ofCells]
    · rfl
  · rfl
theorem ren_readCells (t : TypeId) (cs : List AV) (off : Nat) : readCells P t (cs.map (AV.ren ρ)) off = (readCells P t cs off).map (AV.ren ρ) := by
  unfold readCells
  split
  · split
    · rename_i n hn
      simp only [List.length_map]
      split
      · simp only [Option.map_some, ren_agg, Option.some.injEq, AV.agg.injEq, ← List.map_drop, ← List.map_take, ren_dis_map]
      · rfl
    · rfl
  · rw [List.getElem?_map]
    cases cs[off]? <;> simp
  · rfl
def renP (ρ : Nat → Nat) (ps : List (Nat × AV)) : List (Nat × AV) := ps.map fun p => (p.1, p.2.ren ρ)
theorem ren_fillA (t : TypeId) : ∀ (ps : List (Nat × AV)) (cells : List AV), fillA P t (cells.map (AV.ren ρ)) (renP ρ ps) = (fillA P t cells ps).map (List.map (AV.ren ρ))
  | [], cells => rfl
  | (i, v) :: rest, cells => by
    simp only [renP, List.map_cons, fillA, ren_cells]
    cases place? P t i with
    | none => rfl
    | some p =>
      obtain ⟨off, n⟩ := p
      cases v.cells with
      | none => rfl
      | some cs =>
        simp only [Option.map_some, List.length_map]
        split
        · rw [← ren_dis_map, ren_writeCells]; exact ren_fillA t rest _
        · rfl
theorem ren_zipParts {α : Type} : ∀ (ps : List (Nat × α)) (vs : List AV), zipParts ps (vs.map (AV.ren ρ)) = renP ρ (zipParts ps vs)
  | [], vs => by cases vs <;> rfl
  | (i, a) :: r, [] => rfl
  | (i, a) :: r, v :: vs => by simp only [List.map_cons, zipParts, ren_zipParts r vs]; rfl
theorem ren_chunks (sz : Nat) : ∀ (n : Nat) (l : List AV), chunks sz n (l.map (AV.ren ρ)) = (chunks sz n l).map (List.map (AV.ren ρ))
  | 0, l => rfl
  | n + 1, l => by simp only [chunks, List.map_cons, ← List.map_take, ← List.map_drop, ren_chunks sz n]
theorem ren_repeatCells (l : List AV) (n : Nat) (h : l.map (AV.ren ρ) = l) : (repeatCells l n).map (AV.ren ρ) = repeatCells l n := by
  induction n with
  | zero => rfl
  | succ n ih =>
    simp only [repeatCells, List.replicate_succ, List.flatten_cons, List.map_append, h] at ih ⊢
    rw [ih]
theorem ren_isPtrNil (t : TypeId) (a b : AV) : isPtrNil P t (a.ren ρ) (b.ren ρ) = isPtrNil P t a b := by
  unfold isPtrNil
  cases P.underlying t with
  | none => rfl
  | some d =>
    cases a with
    | val v => cases b with
      | val u => rfl
      | _ => cases d <;> first | rfl | (cases v <;> first | rfl | (rename_i p; cases p <;> rfl))
    | _ => cases b with
      | val v => cases d <;> first | rfl | (cases v <;> first | rfl | (rename_i p; cases p <;> rfl))
      | _ => cases d <;> rfl
theorem ren_abin (op : BinOp) (t : TypeId) (x y : Operand) (a b : AV) : abin P op t x y (a.ren ρ) (b.ren ρ) = (abin P op t x y a b).map (AV.ren ρ) := by
  unfold abin
  simp only [ren_toVal, ren_isPtrNil]
  split
  · rw [Option.map_map]; congr 1; funext v; simp
  · split
    · cases isPtrNil P t a b <;> rfl
    · cases isPtrNil P t a b <;> rfl
    · rfl
theorem ren_bytesOfRows : ∀ l : List (List AV), bytesOfRows (l.map (List.map (AV.ren ρ))) = bytesOfRows l
  | [] => rfl
  | r :: l => by
    cases r with
    | nil => simp [bytesOfRows]
    | cons a r => cases r with
      | nil => cases a with
        | val v => cases v with
          | int k n => cases k <;> simp [bytesOfRows, ren_bytesOfRows l]
          | _ => simp [bytesOfRows]
        | _ => simp [bytesOfRows]
      | cons b r => simp [bytesOfRows]
theorem ren_aconvert (src dst : TypeId) (a : AV) : aconvert P src dst (a.ren ρ) = (aconvert P src dst a).map (AV.ren ρ) := by
  cases a with
  | val v => simp only [ren_val, aconvert, Option.map_map]; congr 1; funext v; simp
  | slice sz rows own =>
    simp only [ren_slice, aconvert, ren_bytesOfRows]
    split
    · split
      · rfl
      · rfl
    · rfl
  | _ => simp [aconvert]
theorem ren_bound (x : Option AV) (d m : Nat) : bound? (x.map (AV.ren ρ)) d m = bound? x d m := by
  cases x with
  | none => rfl
  | some a => cases a <;> simp [bound?]
theorem ren_aslice (t : TypeId) (a : AV) (lo hi mx : Option AV) : aslice P t (a.ren ρ) (lo.map (AV.ren ρ)) (hi.map (AV.ren ρ)) (mx.map (AV.ren ρ)) = (aslice P t a lo hi mx).map (AV.ren ρ) := by
  unfold aslice
  split
  · rename_i s hu ha
    have : a = .val (.string s) := by cases a <;> simp at ha; subst ha; rfl
    subst this
    simp only [hu, ren_bound]
    cases mx with
    | some m => rfl
    | none =>
      simp only [Option.map_none]
      cases bound? hi s.size s.size with
      | none => rfl
      | some h => simp only; cases bound? lo 0 h <;> rfl
  · rename_i e sz rows own hu ha
    have : ∃ rows', a = .slice sz rows' own ∧ rows = rows'.map (List.map (AV.ren ρ)) := by
      cases a with
      | slice sz' rows' own' => simp only [ren_slice, AV.slice.injEq] at ha; exact ⟨rows', by rw [ha.1, ha.2.2], ha.2.1.symm⟩
      | _ => simp at ha
    obtain ⟨rows', rfl, rfl⟩ := this
    simp only [hu, List.map_eq_nil_iff, List.length_map, ren_bound]
    cases size? P e with
    | none => rfl
    | some n =>
      simp only
      split
      · cases mx with
        | none =>
          simp only [Option.map_none]
          cases bound? hi rows'.length rows'.length with
          | none => rfl
          | some h =>
            simp only
            cases bound? lo 0 h with
            | none => rfl
            | some l => simp only [Option.map_some, ren_slice, List.map_take, List.map_drop]
        | some m =>
          simp only [Option.map_some]
          cases hi with
          | none => rfl
          | some hi =>
            have h1 := ren_bound (ρ := ρ) (some m) 0 rows'.length
            simp only [Option.map_some] at h1 ⊢
            rw [h1]
            cases bound? (some m) 0 rows'.length with
            | none => rfl
            | some m =>
              have h2 := ren_bound (ρ := ρ) (some hi) 0 m
              simp only [Option.map_some] at h2 ⊢
              rw [h2]
              cases bound? (some hi) 0 m with
              | none => rfl
              | some h =>
                simp only
                cases bound? lo 0 h with
                | none => rfl
                | some l => simp only [Option.map_some, ren_slice, List.map_take, List.map_drop]
      · rfl
  · rename_i h1 h2
    cases hu : P.underlying t with
    | none => rfl
    | some d => cases d with
      | string => cases a with
        | val v => cases v with
          | string s => exact absurd rfl (h1 s hu)
          | _ => rfl
        | _ => rfl
      | slice e => cases a with
        | slice sz rows own => exact absurd (ren_slice ..) (h2 e _ _ _ hu)
        | _ => rfl
      | _ => rfl
theorem ren_afieldAddr (t : TypeId) (a : AV) (i : Nat) : afieldAddr P t (a.ren ρ) i = (afieldAddr P t a i).map (AV.ren ρ) := by
  unfold afieldAddr
  split
  · split
    · split
      · cases a with
        | ref cs =>
          simp only [ren_ref, List.length_map]
          split
          · simp
          · rfl
        | _ => simp
      · rfl
    · rfl
  · rfl
theorem ren_afield (t : TypeId) (a : AV) (i : Nat) : afield P t (a.ren ρ) i = (afield P t a i).map (AV.ren ρ) := by
  unfold afield partA
  cases P.underlying t with
  | none => simp
  | some d =>
    cases d with
    | struct fs =>
      cases a with
      | agg cs =>
        simp only [ren_agg]
        split
        · exact ren_readCells _ _ _
        · rfl
      | _ => simp
    | _ => simp
theorem ren_aindexAddr (t : TypeId) (a ix : AV) : aindexAddr P t (a.ren ρ) (ix.ren ρ) = (aindexAddr P t a ix).map (AV.ren ρ) := by
  unfold aindexAddr
  cases ix with
  | val v =>
    simp only [ren_val]
    cases P.underlying t with
    | none => rfl
    | some d =>
      cases d with
      | slice e =>
        cases v with
        | int k i =>
          cases a with
          | slice sz rows own =>
            simp only [ren_slice]
            split
            · rw [List.getElem?_map]
              cases rows[i.toNat]? with
              | none => rfl
              | some r =>
                simp only [Option.map_some]
                split
                · simp
                · rfl
            · rfl
          | _ => simp
        | _ => rfl
      | array len e =>
        cases v with
        | int k i =>
          simp only
          split
          · split
            · cases a with
              | ref cs =>
                simp only [ren_ref, List.length_map]
                split
                · simp
                · rfl
              | _ => simp
            · rfl
          · rfl
        | _ => rfl
      | _ => rfl
  | _ => cases P.underlying t with
    | none => simp
    | some d => cases d <;> simp
theorem ren_aindex (t : TypeId) (a ix : AV) : aindex P t (a.ren ρ) (ix.ren ρ) = (aindex P t a ix).map (AV.ren ρ) := by
  unfold aindex partA
  cases P.underlying t with
  | none => simp
  | some d =>
    cases d with
    | array len e =>
      cases a with
      | agg cs =>
        cases ix with
        | val v =>
          cases v with
          | int k i =>
            simp only [ren_agg, ren_val]
            split
            · split
              · exact ren_readCells _ _ _
              · rfl
            · rfl
          | _ => simp
        | _ => simp
      | _ => simp
    | string =>
      cases a with
      | val u =>
        cases u with
        | string s =>
          cases ix with
          | val v =>
            cases v with
            | int k i =>
              simp only [ren_val]
              split
              · cases s[i.toNat]? <;> rfl
              · rfl
            | _ => simp
          | _ => simp
        | _ => simp
      | _ => simp
    | _ => simp
theorem ren_atypeAssert (a : AV) (t : TypeId) (ok : Bool) : atypeAssert P (a.ren ρ) t ok = (atypeAssert P a t ok).map (AV.ren ρ) := by
  have fails : (if ok = true then match (P.info? t).bind (·.zero) with
      | some z => some (AV.tuple [ofVal z, .val (.bool false)])
      | none => none
    else none) = (if ok = true then match (P.info? t).bind (·.zero) with
      | some z => some (AV.tuple [ofVal z, .val (.bool false)])
      | none => none
    else none).map (AV.ren ρ) := by
    split
    · split
      · simp
      · rfl
    · rfl
  unfold atypeAssert
  simp only
  split
  · rfl
  · rfl
  · cases a with
    | iface u v =>
      simp only [ren_iface]
      split
      · split <;> simp
      · exact fails
    | val v => cases v <;> simp only [ren_val] <;> first | rfl | exact fails
    | _ => simp
theorem ren_alen (t : TypeId) (a : AV) : alen P t (a.ren ρ) = (alen P t a).map (AV.ren ρ) := by
  unfold alen
  cases P.underlying t with
  | none => simp
  | some d => cases d with
    | slice e => cases a <;> simp
    | string => cases a with
      | val v => cases v <;> simp
      | _ => simp
    | _ => simp
theorem ren_newRows (b : AV) : newRows (b.ren ρ) = (newRows b).map fun p => (p.1, p.2.map (List.map (AV.ren ρ))) := by
  cases b with
  | val v =>
    cases v with
    | string s =>
      simp only [ren_val, newRows, Option.map_some, Option.some.injEq, Prod.mk.injEq, List.map_map, true_and]
      exact List.map_congr_left fun a _ => rfl
    | _ => simp [newRows]
  | _ => simp [newRows]
theorem ren_aappend (ts : Array TypeId) (a b : AV) : aappend P ts (a.ren ρ) (b.ren ρ) = (aappend P ts a b).map (AV.ren ρ) := by
  unfold aappend
  cases ts[0]? with
  | none => rfl
  | some st => cases ts[1]? with
    | none => rfl
    | some xt =>
      simp only
      cases P.underlying st with
      | none => rfl
      | some d => cases d with
        | slice e =>
          cases P.underlying xt with
          | none => rfl
          | some xd =>
            cases xd with
            | int => rfl
            | _ =>
              simp only [ren_newRows]
              cases a with
              | slice sz rows own =>
                cases newRows b with
                | none => simp
                | some p =>
                  obtain ⟨sz', new⟩ := p
                  cases P.info? e with
                  | none => simp
                  | some i =>
                    simp only [ren_slice, Option.map_some, List.map_eq_nil_iff, List.length_map]
                    split
                    · simp
                    · split
                      · simp only [Option.map_some, ren_slice, List.map_append, List.map_map, Option.some.injEq, AV.slice.injEq, true_and, and_true, List.append_cancel_left_eq]
                        exact List.map_congr_left fun r _ => (ren_dis_map r).symm
                      · rfl
              | _ => simp
        | _ => rfl
theorem ren_amakeSlice (t : TypeId) (l c : AV) : amakeSlice P t (l.ren ρ) (c.ren ρ) = (amakeSlice P t l c).map (AV.ren ρ) := by
  unfold amakeSlice
  cases P.underlying t with
  | none => simp
  | some d => cases d with
    | slice e =>
      cases l with
      | val v => cases v with
        | int k l => cases c with
          | val v => cases v with
            | int k c =>
              simp only [ren_val]
              split
              · split
                · split
                  · simp only [Option.map_some, ren_slice, List.map_replicate, ren_ofCells]
                  · rfl
                · rfl
              · rfl
            | _ => simp
          | _ => simp
        | _ => simp
      | _ => simp
    | _ => simp
theorem ren_allVals : ∀ l : List AV, allVals (l.map (AV.ren ρ)) = allVals l
  | [] => rfl
  | a :: l => by simp only [List.map_cons, allVals, ren_toVal, ren_allVals l]
theorem ren_abuiltin (o : Oper) (b : Builtin) (ts : Array TypeId) (vs : List AV) : abuiltin P o b ts (vs.map (AV.ren ρ)) = (abuiltin P o b ts vs).map (AV.ren ρ) := by
  have maxmin : ∀ (g : Array Value → Sem Value) (vs : List AV), (match allVals (vs.map (AV.ren ρ)) with
      | some l => (semVal P (g l.toArray)).map ofVal
      | none => none) = (match allVals vs with
      | some l => (semVal P (g l.toArray)).map ofVal
      | none => none).map (AV.ren ρ) := by
    intro g vs
    rw [ren_allVals]
    cases allVals vs with
    | none => rfl
    | some l => simp only [Option.map_map]; congr 1; funext v; simp
  cases b with
  | len =>
    match vs with
    | [x] =>
      simp only [List.map_cons, List.map_nil, abuiltin]
      cases ts[0]? with
      | none => rfl
      | some t => exact ren_alen t x
    | [] => rfl
    | _ :: _ :: _ => rfl
  | append =>
    match vs with
    | [x, y] => simp only [List.map_cons, List.map_nil, abuiltin]; exact ren_aappend ts x y
    | [] => rfl
    | [_] => rfl
    | _ :: _ :: _ :: _ => rfl
  | max => simp only [abuiltin]; exact maxmin (fun l => Builtin.max_ ts o.type l) vs
  | min => simp only [abuiltin]; exact maxmin (fun l => Builtin.min_ ts o.type l) vs
  | _ => rfl
theorem ren_abuild (t : TypeId) (ps : List (Nat × AV)) : abuild P t (renP ρ ps) = (abuild P t ps).map (AV.ren ρ) := by
  have key : ∀ z, zeroCells P t = some z → (fillA P t z (renP ρ ps)).map AV.agg = ((fillA P t z ps).map AV.agg).map (AV.ren ρ) := by
    intro z hz
    have h := ren_zeroCells (P := P) (ρ := ρ) (t := t)
    rw [hz] at h
    simp only [Option.map_some, Option.some.injEq] at h
    have := ren_fillA (P := P) (ρ := ρ) t ps z
    rw [h] at this
    rw [this]
    cases fillA P t z ps <;> simp
  unfold abuild
  split
  · split
    · split
      · rename_i z hz; exact key z hz
      · rfl
    · rfl
  · split
    · rename_i z _ hz _; exact key z hz
    · rfl
  · rfl
theorem normS_ren (t : TypeId) (v : AV) : (normS P t v).ren ρ = normS P t (v.ren ρ) := by
  cases v with
  | slice sz rows own =>
    unfold normS
    simp only [AV.ren]
    split
    · split
      · split
        · rfl
        · cases rows with
          | nil => rfl
          | cons r l => rfl
      · rfl
    · rfl
  | _ => rfl
theorem normCs_ren : ∀ (ts : List TypeId) (vs : List AV), rens ρ (normCs P ts vs) = normCs P ts (rens ρ vs)
  | [], vs => by unfold normCs; rfl
  | t :: ts, [] => rfl
  | t :: ts, v :: vs => by simp only [normCs, rens, normS_ren, normCs_ren ts vs]
theorem normRow_ren (e : TypeId) (r : List AV) : rens ρ (normRow P e r) = normRow P e (rens ρ r) := by
  unfold normRow
  split
  · split
    · exact normCs_ren _ _
    · rfl
  · exact normCs_ren _ _
theorem normRows_ren (e : TypeId) : ∀ rows : List (List AV), renss ρ (rows.map (normRow P e)) = (renss ρ rows).map (normRow P e)
  | [] => rfl
  | r :: rows => by simp only [List.map_cons, renss, normRow_ren, normRows_ren e rows]
theorem ren_abuildSlice (t : TypeId) (n : Nat) (ps : List (Nat × AV)) : abuildSlice P t n (renP ρ ps) = (abuildSlice P t n ps).map (AV.ren ρ) := by
  unfold abuildSlice
  split
  · split
    · split
      · split
        · rename_i i _ z _ _
          have h := ren_fillA (P := P) (ρ := ρ) t ps (repeatCells (z.cells.toList.map ofCell) n)
          rw [ren_repeatCells _ _ (ren_ofCells _)] at h
          rw [h]
          cases fillA P t (repeatCells (z.cells.toList.map ofCell) n) ps with
          | none => rfl
          | some cs =>
            simp only [Option.map_some, ren_slice, ren_chunks]
            have key : ∀ (e : TypeId) (X : List (List AV)), (X.map (List.map (AV.ren ρ))).map (normRow P e) = (X.map (normRow P e)).map (List.map (AV.ren ρ)) := fun e X => by
              have h2 := normRows_ren (P := P) (ρ := ρ) e X
              rw [renss_map, renss_map] at h2
              exact h2.symm
            rw [key]
        · rfl
      · rfl
    · rfl
  · rfl
theorem ren_anilCheck (a : AV) : anilCheck (a.ren ρ) = (anilCheck a).map (AV.ren ρ) := by
  cases a with
  | func fn a b => cases fn <;> simp [anilCheck]
  | _ => simp [anilCheck]
theorem ren_amakeInterface (t : TypeId) (a : AV) : amakeInterface P t (a.ren ρ) = (amakeInterface P t a).map (AV.ren ρ) := by
  unfold amakeInterface
  split
  · rfl
  · rfl
  · simp only [ren_isLp]
    split
    · rfl
    · simp
theorem ren_aextract (v : AV) (i : Nat) : aextract (v.ren ρ) i = (aextract v i).map (AV.ren ρ) := by
  cases v with
  | tuple vs =>
    simp only [ren_tuple, aextract, List.getElem?_map]
    cases vs[i]? <;> simp
  | val v => cases v with
    | tuple vs =>
      simp only [ren_val, aextract]
      cases vs[i]? <;> simp
    | _ => simp [aextract]
  | _ => simp [aextract]
theorem ren_newCells (o : Oper) (vs : List AV) : newCells P o (vs.map (AV.ren ρ)) = (newCells P o vs).map (List.map (AV.ren ρ)) := by
  unfold newCells
  cases o.op with
  | alloc e =>
    cases vs with
    | nil => simp only [List.map_nil]; exact ren_zeroCells.symm
    | cons a vs => rfl
  | box t x =>
    match vs with
    | [v] => simp only [List.map_cons, List.map_nil]; exact ren_cells' v
    | [] => rfl
    | _ :: _ :: _ => rfl
  | _ => rfl
end
end
end Go.Eng
end

section
/-
  THE ENGINE, part 26: pointers under other names: what a function does in a heap it does in a greater one, whatever lies beside.
-/
set_option linter.unusedVariables false
set_option linter.unusedSimpArgs false
namespace Go.Eng
/-- A heap of n blocks within one of N: where its blocks lie; what lies beside holds nothing from beyond. -/
structure Fr (ρ : Nat → Nat) (n N : Nat) (F : Heap) : Prop where
  lo : ∀ i, i < n → ρ i < N
  hi : ∀ i, n ≤ i → ρ i = i - n + N
  inj : ∀ i j, i < n → j < n → ρ i = ρ j → i = j
  low : ∀ j cs, F[j]? = some cs → j < N → (∀ i, i < n → ρ i ≠ j) → lows N cs = true
structure HR (ρ : Nat → Nat) (n N : Nat) (F H K : Heap) : Prop where
  le : n ≤ H.length
  len : K.length = H.length - n + N
  im : ∀ i, K[ρ i]? = (H[i]?).map (List.map (AV.ren ρ))
  off : ∀ j, j < N → (∀ i, i < n → ρ i ≠ j) → K[j]? = F[j]?
section
variable {ρ : Nat → Nat} {n N : Nat} {F : Heap}
theorem Fr.inj' (h : Fr ρ n N F) {i j : Nat} (e : ρ i = ρ j) : i = j := by
  rcases Nat.lt_or_ge i n with hi | hi
  · rcases Nat.lt_or_ge j n with hj | hj
    · exact h.inj i j hi hj e
    · have := h.lo i hi; have := h.hi j hj; omega
  · rcases Nat.lt_or_ge j n with hj | hj
    · have := h.lo j hj; have := h.hi i hi; omega
    · have := h.hi i hi; have := h.hi j hj; omega
theorem HR.set (hf : Fr ρ n N F) {H K : Heap} (h : HR ρ n N F H K) (id : Nat) (cs : List AV) : HR ρ n N F (H.set id cs) (K.set (ρ id) (cs.map (AV.ren ρ))) := by
  refine ⟨by simpa using h.le, by simpa using h.len, ?_, ?_⟩
  · intro i
    simp only [List.getElem?_set]
    by_cases e : id = i
    · subst e
      simp only [if_true]
      have h1 := h.im id
      by_cases hl : id < H.length
      · rw [if_pos hl, if_pos]
        · rfl
        · rw [List.getElem?_eq_getElem hl] at h1
          exact (List.getElem?_eq_some_iff.1 h1).1
      · rw [if_neg hl, if_neg]
        · rfl
        · have h2 : H[id]? = none := List.getElem?_eq_none (Nat.not_lt.1 hl)
          rw [h2] at h1
          exact Nat.not_lt.2 (List.getElem?_eq_none_iff.1 h1)
    · rw [if_neg (fun h => e (hf.inj' h)), if_neg e]
      exact h.im i
  · intro j hj hn
    rw [List.getElem?_set]
    by_cases e : ρ id = j
    · by_cases hid : id < n
      · exact absurd e (hn id hid)
      · have := hf.hi id (by omega); omega
    · rw [if_neg e]; exact h.off j hj hn
theorem HR.push (hf : Fr ρ n N F) {H K : Heap} (h : HR ρ n N F H K) (cs : List AV) : HR ρ n N F (H ++ [cs]) (K ++ [cs.map (AV.ren ρ)]) ∧ ρ H.length = K.length := by
  have e : ρ H.length = K.length := by rw [hf.hi _ h.le, h.len]
  refine ⟨⟨by have := h.le; simp; omega, by have := h.len; have := h.le; simp; omega, ?_, ?_⟩, e⟩
  · intro i
    rcases Nat.lt_trichotomy i H.length with hi | hi | hi
    · have : ρ i < K.length := by
        have h1 := h.im i
        rw [List.getElem?_eq_getElem hi] at h1
        exact (List.getElem?_eq_some_iff.1 h1).1
      rw [List.getElem?_append_left this, List.getElem?_append_left hi]; exact h.im i
    · subst hi
      rw [e]; simp
    · have h1 := hf.hi i (by have := h.le; omega)
      have h2 := h.len
      have h3 := h.le
      rw [List.getElem?_eq_none (by simp; omega), List.getElem?_eq_none (by simp; omega)]; rfl
  · intro j hj hn
    have := h.len; have := h.le
    rw [List.getElem?_append_left (by omega)]; exact h.off j hj hn
def renRM (ρ : Nat → Nat) : RM → RM
  | .none => .none
  | .returning => .returning
  | .panicking v r => .panicking (v.ren ρ) r
def renOut (ρ : Nat → Nat) : Out → Out
  | .ret v => .ret (v.ren ρ)
  | .panic v => .panic (v.ren ρ)
def renD (ρ : Nat → Nat) (d : ADef) : ADef := ⟨d.f, d.args.map (AV.ren ρ)⟩
def renL (ρ : Nat → Nat) (c : LCell) : LCell := (c.1, c.2.map (AV.ren ρ))
structure GRl (ρ : Nat → Nat) (n N : Nat) (F : Heap) (g g' : G) : Prop where
  H : HR ρ n N F g.H g'.H
  df : g'.defers = g.defers.map (renD ρ)
  rm : g'.rm = renRM ρ g.rm
  bs : n ≤ g.base ∧ g'.base = g.base - n + N
structure SRl (ρ : Nat → Nat) (n N : Nat) (F : Heap) (s s' : St) : Prop where
  t : s'.tmps = s.tmps.map (AV.ren ρ)
  l : s'.lh = s.lh.map (Option.map (renL ρ))
  g : GRl ρ n N F s.g s'.g
structure RRl (ρ : Nat → Nat) (n N : Nat) (F : Heap) (r r' : CRes) : Prop where
  o : r'.out = renOut ρ r.out
  rm : r'.rm = renRM ρ r.rm
  H : HR ρ n N F r.H r'.H
def CallR (ρ : Nat → Nat) (n N : Nat) (F : Heap) (call : CallF) : Prop :=
  ∀ f args rm H r, call f args rm H = some r → ∀ K, HR ρ n N F H K → ∃ r', call f (args.map (AV.ren ρ)) (renRM ρ rm) K = some r' ∧ RRl ρ n N F r r'
variable {P : Program} {cfg : FuncId → FCfg} {call : CallF}
theorem ren_vals' (s : List AV) : ∀ (xs : List Operand) (ms : List Bool), vals (s.map (AV.ren ρ)) xs ms = (vals s xs ms).map (AV.ren ρ)
  | [], ms => by cases ms <;> rfl
  | x :: r, [] => by simp only [vals, List.map_cons, ren_aeval, ren_dis, ren_vals' s r]
  | x :: r, b :: bs => by cases b <;> simp [vals, ren_aeval, ren_vals' s r]
theorem modify_ren (s : List AV) (t : Nat) : (s.map (AV.ren ρ)).modify t AV.dis = (s.modify t AV.dis).map (AV.ren ρ) := by
  apply List.ext_getElem?
  intro i
  simp only [List.getElem?_modify, List.getElem?_map]
  cases s[i]? with
  | none => rfl
  | some a =>
    simp only [Option.map_some, Option.some.injEq]
    split <;> simp
theorem ren_disT : ∀ (xs : List Operand) (ms : List Bool) (s : List AV), disT (s.map (AV.ren ρ)) xs ms = (disT s xs ms).map (AV.ren ρ)
  | [], ms, s => by cases ms <;> rfl
  | x :: r, [], s => by cases x <;> rfl
  | x :: r, b :: bs, s => by
    cases x with
    | tmp t => cases b with
      | true => simp only [disT, modify_ren]; exact ren_disT r bs _
      | false => simp only [disT]; exact ren_disT r bs _
    | _ => cases b <;> (simp only [disT]; exact ren_disT r bs _)
theorem ren_acls (f : FuncId) (o : Oper) (vs : List AV) : acls cfg f o (vs.map (AV.ren ρ)) = acls cfg f o vs := by
  unfold acls
  cases o.op with
  | load t x =>
    match vs with
    | [] => rfl
    | [a] => cases a <;> simp
    | a :: _ :: _ => cases a <;> simp
  | store t x y =>
    match vs with
    | [] => rfl
    | a :: _ => cases a <;> simp
  | _ => rfl
theorem ren_apure (o : Oper) (vs : List AV) : apure P o (vs.map (AV.ren ρ)) = (apure P o vs).map (AV.ren ρ) := by
  unfold apure
  cases ho : o.op with
  | move x => match vs with
    | [] => rfl
    | [a] => rfl
    | _ :: _ :: _ => rfl
  | assign x => match vs with
    | [] => rfl
    | [a] => rfl
    | _ :: _ :: _ => rfl
  | pick c a b => match vs with
    | [c, a, b] =>
      cases c with
      | val v => cases v with
        | bool b => cases b <;> rfl
        | _ => rfl
      | _ => simp
    | [] => rfl
    | [_] => rfl
    | [_, _] => rfl
    | _ :: _ :: _ :: _ :: _ => rfl
  | alloc e =>
    simp only [ren_newCells]
    cases newCells P o vs <;> simp
  | box e v =>
    simp only [ren_newCells]
    cases newCells P o vs <;> simp
  | build t ps =>
    simp only [ren_anyLp]
    split
    · rfl
    · rw [ren_zipParts]; exact ren_abuild _ _
  | buildSlice t m ps =>
    simp only [ren_anyLp]
    split
    · rfl
    · rw [ren_zipParts]; exact ren_abuildSlice _ _ _
  | load t x => match vs with
    | [a] => cases a with
      | ref cs => simp only [List.map_cons, List.map_nil, ren_ref]; exact ren_readCells _ _ _
      | _ => simp
    | [] => rfl
    | a :: _ :: _ => cases a <;> simp
  | nilCheck x => match vs with
    | [a] => exact ren_anilCheck a
    | [] => rfl
    | _ :: _ :: _ => rfl
  | binOp op t x y => match vs with
    | [a, b] => exact ren_abin ..
    | [] => rfl
    | [_] => rfl
    | _ :: _ :: _ :: _ => rfl
  | unOp op t x => match vs with
    | [a] =>
      simp only [List.map_cons, List.map_nil, ren_toVal]
      cases a.toVal with
      | none => rfl
      | some w => simp only [Option.map_map]; congr 1; funext v; simp
    | [] => rfl
    | _ :: _ :: _ => rfl
  | convert a b x => match vs with
    | [v] => exact ren_aconvert ..
    | [] => rfl
    | _ :: _ :: _ => rfl
  | makeInterface t x => match vs with
    | [v] => exact ren_amakeInterface ..
    | [] => rfl
    | _ :: _ :: _ => rfl
  | makeFunc fn a b =>
    simp only [ren_anyLp]
    split
    · rfl
    · simp only [Option.map_some, ren_func, List.map_take, List.map_drop]
  | makeSlice t l c => match vs with
    | [a, b] => exact ren_amakeSlice ..
    | [] => rfl
    | [_] => rfl
    | _ :: _ :: _ :: _ => rfl
  | slice t x l h m => match vs with
    | [] => rfl
    | y :: r =>
      simp only [List.map_cons]
      have e1 : (if l.isSome = true then (r.map (AV.ren ρ)).head? else none) = (if l.isSome = true then r.head? else none).map (AV.ren ρ) := by split <;> simp
      have e2 : (if l.isSome = true then (r.map (AV.ren ρ)).tail else r.map (AV.ren ρ)) = (if l.isSome = true then r.tail else r).map (AV.ren ρ) := by split <;> simp
      rw [e1, e2]
      generalize (if l.isSome = true then r.tail else r) = r1
      generalize (if l.isSome = true then r.head? else none) = lo
      have e3 : (if h.isSome = true then (r1.map (AV.ren ρ)).head? else none) = (if h.isSome = true then r1.head? else none).map (AV.ren ρ) := by split <;> simp
      have e4 : (if h.isSome = true then (r1.map (AV.ren ρ)).tail else r1.map (AV.ren ρ)) = (if h.isSome = true then r1.tail else r1).map (AV.ren ρ) := by split <;> simp
      rw [e3, e4]
      generalize (if h.isSome = true then r1.tail else r1) = r2
      generalize (if h.isSome = true then r1.head? else none) = hi
      have e5 : (if m.isSome = true then (r2.map (AV.ren ρ)).head? else none) = (if m.isSome = true then r2.head? else none).map (AV.ren ρ) := by split <;> simp
      rw [e5]
      generalize (if m.isSome = true then r2.head? else none) = mx
      have e6 : (AV.ren ρ y :: r.map (AV.ren ρ)).any AV.isLp = (y :: r).any AV.isLp := ren_anyLp (y :: r)
      simp only [Option.isSome_map, e6]
      split
      · exact ren_aslice _ _ _ _ _
      · rfl
  | fieldAddr t x i => match vs with
    | [a] => exact ren_afieldAddr ..
    | [] => rfl
    | _ :: _ :: _ => rfl
  | field t x i => match vs with
    | [a] => exact ren_afield ..
    | [] => rfl
    | _ :: _ :: _ => rfl
  | indexAddr t x y => match vs with
    | [a, b] => exact ren_aindexAddr ..
    | [] => rfl
    | [_] => rfl
    | _ :: _ :: _ :: _ => rfl
  | index t x y => match vs with
    | [a, b] => exact ren_aindex ..
    | [] => rfl
    | [_] => rfl
    | _ :: _ :: _ :: _ => rfl
  | typeAssert x a t ok => match vs with
    | [v] => exact ren_atypeAssert ..
    | [] => rfl
    | _ :: _ :: _ => rfl
  | extract x i => match vs with
    | [v] => exact ren_aextract ..
    | [] => rfl
    | _ :: _ :: _ => rfl
  | call c =>
    simp only
    cases c.callee with
    | builtin b => exact ren_abuiltin ..
    | _ => rfl
  | _ => simp
theorem ren_aloc (f : FuncId) (o : Oper) (vs : List AV) (c : Option LCell) :
    aloc P cfg f o (vs.map (AV.ren ρ)) (c.map (renL ρ)) = (aloc P cfg f o vs c).map fun (p : AV × Option LCell) => (p.1.ren ρ, p.2.map (renL ρ)) := by
  have new : (match o.dst, newCells P o (vs.map (AV.ren ρ)) with
      | some t, some cs => match c.map (renL ρ) with
        | none => some (AV.lp t 0 0, some (0, cs))
        | some (g, _) => some (.lp t (g + 1) 0, some (g + 1, cs))
      | _, _ => none) = (match o.dst, newCells P o vs with
      | some t, some cs => match c with
        | none => some (AV.lp t 0 0, some (0, cs))
        | some (g, _) => some (.lp t (g + 1) 0, some (g + 1, cs))
      | _, _ => none).map fun (p : AV × Option LCell) => (p.1.ren ρ, p.2.map (renL ρ)) := by
    rw [ren_newCells]
    cases o.dst with
    | none => rfl
    | some t => cases newCells P o vs with
      | none => rfl
      | some cs => cases c with
        | none => rfl
        | some c => rfl
  unfold aloc
  cases o.op with
  | alloc e => exact new
  | box e v => exact new
  | load t x => match vs with
    | [a] => cases a with
      | lp l g off =>
        cases c with
        | none => rfl
        | some c =>
          obtain ⟨g', cs⟩ := c
          simp only [List.map_cons, List.map_nil, ren_lp, Option.map_some, renL]
          split
          · split
            · rw [List.getElem?_map]
              cases isAgg? P t with
              | none => rfl
              | some b => cases b with
                | true => rfl
                | false => cases cs[off]? with
                  | none => rfl
                  | some v => simp only [Option.map_some, renL, List.map_set, ren_dis]
            · rw [ren_readCells]
              cases readCells P t cs off <;> rfl
          · rfl
      | _ => simp
    | [] => rfl
    | a :: _ :: _ => cases a <;> simp
  | store t x y => match vs with
    | [a, v] => cases a with
      | lp l g off =>
        cases c with
        | none => rfl
        | some c =>
          obtain ⟨g', cs⟩ := c
          simp only [List.map_cons, List.map_nil, ren_lp, Option.map_some, renL, ren_scells]
          cases v.scells with
          | none => rfl
          | some new =>
            simp only [Option.map_some]
            cases size? P t with
            | none => rfl
            | some m =>
              simp only [List.length_map]
              split
              · simp only [Option.map_some, ren_writeCells, ren_val, renL]
              · rfl
      | _ => simp
    | [] => rfl
    | [a] => cases a <;> simp
    | a :: _ :: _ :: _ => cases a <;> simp
  | _ => simp
/-- What two outcomes have in common. -/
inductive GRR (ρ : Nat → Nat) (n N : Nat) (F : Heap) : GR → GR → Prop
  | val (v : AV) {g g' : G} : GRl ρ n N F g g' → GRR ρ n N F (.val v g) (.val (v.ren ρ) g')
  | panic (v : AV) {g g' : G} : GRl ρ n N F g g' → GRR ρ n N F (.panic v g) (.panic (v.ren ρ) g')
theorem acallv_ren (hc : CallR ρ n N F call) {g : FuncId} {args : List AV} {m m' : G} {r : GR} (h : acallv call g args m = some r) (hm : GRl ρ n N F m m') :
    ∃ r', acallv call g (args.map (AV.ren ρ)) m' = some r' ∧ GRR ρ n N F r r' := by
  unfold acallv at *
  rw [ren_anyLp]
  split at h
  · cases h
  · rename_i hl
    rw [if_neg hl]
    split at h
    · rename_i v rm H e
      simp only [Option.some.injEq] at h; subst h
      obtain ⟨⟨o, rm', K⟩, e', h1, h2, h3⟩ := hc _ _ _ _ _ e _ hm.H
      simp only [renOut] at h1; subst h1
      simp only [renRM] at e'
      exact ⟨.val (v.ren ρ) { m' with H := K }, by rw [e'], .val v ⟨h3, hm.df, hm.rm, hm.bs⟩⟩
    · rename_i v rm H e
      simp only [Option.some.injEq] at h; subst h
      obtain ⟨⟨o, rm', K⟩, e', h1, h2, h3⟩ := hc _ _ _ _ _ e _ hm.H
      simp only [renOut] at h1; subst h1
      simp only [renRM] at e'
      exact ⟨.panic (v.ren ρ) { m' with H := K }, by rw [e'], .panic v ⟨h3, hm.df, hm.rm, hm.bs⟩⟩
    · cases h
theorem aglob_ren (hf : Fr ρ n N F) (hc : CallR ρ n N F call) {f : FuncId} {o : Oper} {vs : List AV} {m m' : G} {r : GR} (h : aglob P cfg call f o vs m = some r) (hm : GRl ρ n N F m m') :
    ∃ r', aglob P cfg call f o (vs.map (AV.ren ρ)) m' = some r' ∧ GRR ρ n N F r r' := by
  have new : ∀ r, (match newCells P o vs with
      | some cs => some (GR.val (.ptr m.H.length 0) { m with H := m.H ++ [cs] })
      | none => none) = some r → ∃ r', (match newCells P o (vs.map (AV.ren ρ)) with
      | some cs => some (GR.val (.ptr m'.H.length 0) { m' with H := m'.H ++ [cs] })
      | none => none) = some r' ∧ GRR ρ n N F r r' := by
    intro r h
    rw [ren_newCells]
    cases hn : newCells P o vs with
    | none => rw [hn] at h; cases h
    | some cs =>
      rw [hn] at h
      simp only [Option.some.injEq] at h; subst h
      obtain ⟨h1, h2⟩ := hm.H.push hf cs
      have := GRR.val (ρ := ρ) (n := n) (N := N) (F := F) (.ptr m.H.length 0) (g := { m with H := m.H ++ [cs] }) (g' := { m' with H := m'.H ++ [cs.map (AV.ren ρ)] }) ⟨h1, hm.df, hm.rm, hm.bs⟩
      rw [ren_ptr, h2] at this
      exact ⟨_, rfl, this⟩
  unfold aglob at h ⊢
  cases ho : o.op with
  | alloc e => simp only [ho] at h ⊢; exact new r h
  | box e v => simp only [ho] at h ⊢; exact new r h
  | load t x =>
    simp only [ho] at h ⊢
    match vs with
    | [] => simp at h
    | [a] =>
      cases a with
      | ptr id off =>
        simp only [List.map_cons, List.map_nil, ren_ptr, hm.H.im] at h ⊢
        cases hH : m.H[id]? with
        | none => rw [hH] at h; cases h
        | some cs =>
          rw [hH] at h
          simp only [Option.map_some] at h ⊢
          split at h
          · rename_i hd
            rw [if_pos hd]
            rw [List.getElem?_map]
            cases hag : isAgg? P t with
            | none => rw [hag] at h; cases h
            | some b => cases b with
              | true => rw [hag] at h; cases h
              | false =>
                rw [hag] at h
                cases hcs : cs[off]? with
                | none => rw [hcs] at h; cases h
                | some v =>
                  rw [hcs] at h
                  simp only [Option.some.injEq] at h; subst h
                  refine ⟨_, rfl, .val v ⟨?_, hm.df, hm.rm, hm.bs⟩⟩
                  have := hm.H.set hf id (cs.set off v.dis)
                  rwa [List.map_set, ren_dis] at this
          · rename_i hd
            rw [if_neg hd, ren_readCells]
            cases hrc : readCells P t cs off with
            | none => rw [hrc] at h; cases h
            | some v =>
              rw [hrc] at h
              simp only [Option.map_some, Option.some.injEq] at h; subst h
              exact ⟨_, rfl, .val v hm⟩
      | _ => simp at h
    | a :: _ :: _ => cases a <;> simp at h
  | store t x y =>
    simp only [ho] at h ⊢
    match vs with
    | [] => simp at h
    | [a] => cases a <;> simp at h
    | [a, v] =>
      cases a with
      | ptr id off =>
        simp only [List.map_cons, List.map_nil, ren_ptr, hm.H.im, ren_scells] at h ⊢
        cases hH : m.H[id]? with
        | none => rw [hH] at h; cases h
        | some cs =>
          rw [hH] at h
          cases hsc : v.scells with
          | none => rw [hsc] at h; cases h
          | some new =>
            rw [hsc] at h
            cases hsz : size? P t with
            | none => rw [hsz] at h; cases h
            | some k =>
              rw [hsz] at h
              simp only [Option.map_some, List.length_map] at h ⊢
              split at h
              · rename_i hcond
                rw [if_pos hcond]
                simp only [Option.some.injEq] at h; subst h
                refine ⟨_, rfl, .val (.val undef) ⟨?_, hm.df, hm.rm, hm.bs⟩⟩
                have := hm.H.set hf id (writeCells cs off new)
                rwa [← ren_writeCells] at this
              · cases h
      | _ => simp at h
    | a :: _ :: _ :: _ => cases a <;> simp at h
  | call c =>
    simp only [ho] at h ⊢
    cases hcl : c.callee with
    | builtin b =>
      rw [hcl] at h
      cases b with
      | recover =>
        simp only [List.map_eq_nil_iff] at h ⊢
        split at h
        · rename_i hv
          rw [if_pos hv]
          unfold arecover at h ⊢
          rw [hm.rm]
          split at h
          · cases h
          · rename_i e
            simp only [Option.some.injEq] at h; subst h
            rw [e]
            exact ⟨_, rfl, .val (.val .nilIface) hm⟩
          · rename_i v e
            simp only [Option.some.injEq] at h; subst h
            rw [e]
            simp only [renRM]
            refine ⟨_, rfl, ?_⟩
            have := GRR.val (ρ := ρ) (n := n) (N := N) (F := F) v.dis (g := { m with rm := .panicking v true }) (g' := { m' with rm := .panicking (v.ren ρ) true }) ⟨hm.H, hm.df, rfl, hm.bs⟩
            rwa [ren_dis] at this
          · rename_i v e
            simp only [Option.some.injEq] at h; subst h
            rw [e]
            exact ⟨_, rfl, .val (.val .nilIface) hm⟩
        · cases h
      | _ => simp at h
    | value x =>
      rw [hcl] at h
      simp only at h ⊢
      match vs with
      | [] => simp at h
      | a :: args =>
        cases a with
        | func fn first captured =>
          cases fn with
          | func g =>
            simp only [List.map_cons, ren_func] at h ⊢
            have := acallv_ren hc h hm
            simp only [List.map_append, ren_dis_map] at this
            exact this
          | _ => simp at h
        | _ => simp at h
    | invoke _ _ => rw [hcl] at h; simp at h
  | defer c =>
    simp only [ho] at h ⊢
    cases hcl : c.callee with
    | value x =>
      rw [hcl] at h
      simp only at h ⊢
      match vs with
      | [] => simp at h
      | a :: args =>
        cases a with
        | func fn first captured =>
          cases fn with
          | func g =>
            simp only [List.map_cons, ren_func] at h ⊢
            have e : (first.map (AV.ren ρ) ++ args.map (AV.ren ρ) ++ captured.map (AV.ren ρ)) = (first ++ args ++ captured).map (AV.ren ρ) := by simp
            rw [e, ren_anyLp]
            split at h
            · cases h
            · rename_i hl
              rw [if_neg hl]
              simp only [Option.some.injEq] at h; subst h
              refine ⟨_, rfl, .val (.val undef) ⟨hm.H, ?_, hm.rm, hm.bs⟩⟩
              simp only [List.map_cons, renD, hm.df, ren_dis_map]
          | _ => simp at h
        | _ => simp at h
    | _ => rw [hcl] at h; simp at h
  | panic x =>
    simp only [ho] at h ⊢
    match vs with
    | [] => simp at h
    | [a] =>
      cases a with
      | iface t v =>
        simp only [Option.some.injEq] at h; subst h
        exact ⟨_, rfl, .panic (.iface t v) hm⟩
      | _ => simp at h
    | a :: _ :: _ => cases a <;> simp at h
  | _ => simp only [ho] at h; simp at h
inductive SRR (ρ : Nat → Nat) (n N : Nat) (F : Heap) : SR → SR → Prop
  | next {s s' : St} : SRl ρ n N F s s' → SRR ρ n N F (.next s) (.next s')
  | panic (v : AV) {s s' : St} : SRl ρ n N F s s' → SRR ρ n N F (.panic v s) (.panic (v.ren ρ) s')
theorem ren_putT (s : List AV) (d : Option Tmp) (v : AV) : putT (s.map (AV.ren ρ)) d (v.ren ρ) = (putT s d v).map (AV.ren ρ) := by
  cases d with
  | none => rfl
  | some t => simp only [putT, List.map_set]
theorem aop_ren (hf : Fr ρ n N F) (hc : CallR ρ n N F call) {f : FuncId} {o : Oper} {s s' : St} {r : SR} (h : aop P cfg call f o s = some r) (hs : SRl ρ n N F s s') :
    ∃ r', aop P cfg call f o s' = some r' ∧ SRR ρ n N F r r' := by
  unfold aop at h ⊢
  simp only [hs.t, hs.l, ren_vals', ren_disT, ren_acls] at h ⊢
  split at h
  · rename_i hn
    rw [if_pos hn]
    split at h
    · rename_i ecl
      simp only [ecl, ren_apure]
      cases hp : apure P o (vals s.tmps o.op.operands.toList (moves cfg f o)) with
      | none => rw [hp] at h; cases h
      | some v =>
        rw [hp] at h
        simp only [Option.some.injEq] at h; subst h
        exact ⟨_, rfl, .next ⟨ren_putT .., rfl, hs.g⟩⟩
    · rename_i l b ecl
      simp only [ecl, List.getElem?_map]
      cases hl : s.lh[l]? with
      | none => rw [hl] at h; cases h
      | some c =>
        rw [hl] at h
        simp only [Option.map_some, ren_aloc] at h ⊢
        cases hp : aloc P cfg f o (vals s.tmps o.op.operands.toList (moves cfg f o)) c with
        | none => rw [hp] at h; cases h
        | some p =>
          obtain ⟨v, c'⟩ := p
          rw [hp] at h
          simp only [Option.some.injEq] at h; subst h
          exact ⟨_, rfl, .next ⟨ren_putT .., by simp only [List.map_set], hs.g⟩⟩
    · rename_i b ecl
      try simp only [ecl]
      cases hp : aglob P cfg call f o (vals s.tmps o.op.operands.toList (moves cfg f o)) s.g with
      | none => rw [hp] at h; cases h
      | some r0 =>
        obtain ⟨r', h1, h2⟩ := aglob_ren hf hc hp hs.g
        rw [hp] at h
        rw [h1]
        cases h2 with
        | val v hg => simp only [Option.some.injEq] at h; subst h; exact ⟨_, rfl, .next ⟨ren_putT .., rfl, hg⟩⟩
        | panic v hg => simp only [Option.some.injEq] at h; subst h; exact ⟨_, rfl, .panic v ⟨rfl, rfl, hg⟩⟩
  · cases h
theorem ren_wantedA (ops : Array Oper) (o : Oper) (ts : List AV) : wantedA ops o (ts.map (AV.ren ρ)) = wantedA ops o ts := by
  unfold wantedA
  split
  · rfl
  · split
    · rfl
    · rename_i t _
      rw [List.getElem?_map]
      cases ts[t]? with
      | none => rfl
      | some v => cases v with
        | val u => cases u <;> rfl
        | _ => simp
theorem astep_ren (hf : Fr ρ n N F) (hc : CallR ρ n N F call) {f : FuncId} {ops : Array Oper} {o : Oper} {s s' : St} {r : SR} (h : astep P cfg call f ops o s = some r) (hs : SRl ρ n N F s s') :
    ∃ r', astep P cfg call f ops o s' = some r' ∧ SRR ρ n N F r r' := by
  unfold astep at h ⊢
  rw [hs.t, ren_wantedA]
  split at h
  · exact aop_ren hf hc h hs
  · simp only [Option.some.injEq] at h; subst h
    exact ⟨_, rfl, .next ⟨ren_putT (ρ := ρ) s.tmps o.dst (.val undef), hs.l, hs.g⟩⟩
  · cases h
def renX (ρ : Nat → Nat) : AX → AX
  | .panic v => .panic (v.ren ρ)
  | x => x
theorem aops_ren (hf : Fr ρ n N F) (hc : CallR ρ n N F call) {f : FuncId} {ops : Array Oper} : ∀ {l : List Nat} {s s' : St} {x : AX} {s1 : St}, aops P cfg call f ops l s = some (x, s1) → SRl ρ n N F s s' →
    ∃ s1', aops P cfg call f ops l s' = some (renX ρ x, s1') ∧ SRl ρ n N F s1 s1' := by
  intro l
  induction l with
  | nil =>
    intro s s' x s1 h hs
    simp only [aops, Option.some.injEq, Prod.mk.injEq] at h
    obtain ⟨rfl, rfl⟩ := h
    exact ⟨s', rfl, hs⟩
  | cons i l ih =>
    intro s s' x s1 h hs
    simp only [aops] at h ⊢
    split at h
    · cases h
    · rename_i o ho
      cases hp : astep P cfg call f ops o s with
      | none => rw [hp] at h; cases h
      | some r0 =>
        obtain ⟨r', h1, h2⟩ := astep_ren hf hc hp hs
        rw [hp] at h
        rw [h1]
        cases h2 with
        | next hs' => exact ih h hs'
        | panic v hs' =>
          simp only [Option.some.injEq, Prod.mk.injEq] at h
          obtain ⟨rfl, rfl⟩ := h
          exact ⟨_, rfl, hs'⟩
theorem adraw_ren (hf : Fr ρ n N F) (hc : CallR ρ n N F call) {f : FuncId} {ops : Array Oper} : ∀ {l : List Oper} {i : Nat} {ancs : List Nat} {foot : List (Nat × Nat)} {s s' s1 : St}, adraw P cfg call f ops l i ancs foot s = some s1 → SRl ρ n N F s s' →
    ∃ s1', adraw P cfg call f ops l i ancs foot s' = some s1' ∧ SRl ρ n N F s1 s1' := by
  intro l
  induction l with
  | nil =>
    intro i ancs foot s s' s1 h hs
    simp only [adraw, Option.some.injEq] at h; subst h
    exact ⟨s', rfl, hs⟩
  | cons o l ih =>
    intro i ancs foot s s' s1 h hs
    have eR : footR cfg f ops o s' = footR cfg f ops o s := by unfold footR; rw [hs.t, ren_wantedA, ren_vals', ren_acls]
    have eW : footW cfg f ops o s' = footW cfg f ops o s := by unfold footW; rw [hs.t, ren_wantedA, ren_vals', ren_acls]
    simp only [adraw, eR, eW] at h ⊢
    split at h
    · rename_i hcd
      rw [if_pos hcd]
      cases hp : astep P cfg call f ops o s with
      | none => rw [hp] at h; cases h
      | some r0 =>
        obtain ⟨r', h1, h2⟩ := astep_ren hf hc hp hs
        rw [hp] at h
        rw [h1]
        cases h2 with
        | next hs' => exact ih h hs'
        | panic v hs' => cases h
    · cases h
theorem ren_maskTmps (m : Nat) : ∀ (l : List AV) (i : Nat), maskTmps m i (l.map (AV.ren ρ)) = (maskTmps m i l).map (AV.ren ρ)
  | [], i => rfl
  | v :: r, i => by
    simp only [List.map_cons, maskTmps, ren_maskTmps m r]
    split <;> rfl
theorem ren_maskLh (m : Nat) : ∀ (l : List (Option LCell)) (i : Nat), maskLh m i (l.map (Option.map (renL ρ))) = (maskLh m i l).map (Option.map (renL ρ))
  | [], i => rfl
  | c :: r, i => by
    simp only [List.map_cons, maskLh, ren_maskLh m r]
    split <;> rfl
theorem ren_lpIn (m : Nat) (v : AV) : lpIn m (v.ren ρ) = lpIn m v := by cases v <;> simp [lpIn]
theorem maskAll_ren {s s' : St} (hs : SRl ρ n N F s s') : SRl ρ n N F (maskAll s) (maskAll s') :=
  ⟨by simp only [maskAll]; rw [hs.t]; exact ren_maskTmps .., by simp only [maskAll]; rw [hs.l]; exact ren_maskLh .., hs.g⟩
theorem adrawP_ren (hf : Fr ρ n N F) (hc : CallR ρ n N F call) {f : FuncId} {ops : Array Oper} : ∀ {l : List Oper} {pv : Option (Nat × AV)} {i : Nat} {ancs : List Nat} {foot : List (Nat × Nat)} {s s' : St} {v : AV} {s1 : St}, adrawP P cfg call f ops pv l i ancs foot s = some (v, s1) → SRl ρ n N F s s' →
    ∃ s1', adrawP P cfg call f ops (pv.map fun p => (p.1, p.2.ren ρ)) l i ancs foot s' = some (v.ren ρ, s1') ∧ SRl ρ n N F s1 s1' := by
  intro l
  induction l with
  | nil =>
    intro pv i ancs foot s s' v s1 h hs
    cases pv with
    | none => simp [adrawP] at h
    | some p =>
      obtain ⟨p, w⟩ := p
      simp only [adrawP, Option.some.injEq, Prod.mk.injEq] at h
      obtain ⟨rfl, rfl⟩ := h
      exact ⟨s', rfl, hs⟩
  | cons o l ih =>
    intro pv i ancs foot s s' v s1 h hs
    have eR : footR cfg f ops o s' = footR cfg f ops o s := by unfold footR; rw [hs.t, ren_wantedA, ren_vals', ren_acls]
    have eW : footW cfg f ops o s' = footW cfg f ops o s := by unfold footW; rw [hs.t, ren_wantedA, ren_vals', ren_acls]
    have eB : ∀ a, behindP (pv.map fun p => (p.1, p.2.ren ρ)) a = behindP pv a := fun a => by cases pv <;> rfl
    simp only [adrawP, eR, eW, eB] at h ⊢
    split at h
    · cases h
    · rename_i hed
      try simp only [hed]
      split at h
      · rename_i hb; (try simp only [hb]); exact ih h hs
      · rename_i hb
        try simp only [hb]
        split at h
        · cases h
        · rename_i hap
          try simp only [hap]
          cases hp : astep P cfg call f ops o s with
          | none => rw [hp] at h; cases h
          | some r0 =>
            obtain ⟨r', h1, h2⟩ := astep_ren hf hc hp hs
            rw [hp] at h
            rw [h1]
            cases h2 with
            | next hs' => exact ih h hs'
            | panic v1 hs' =>
              simp only at h ⊢
              split at h
              · rename_i hrw
                simp only [Option.map_none, hrw]
                exact ih (pv := some (i, v1)) h hs'
              · cases h
/-! ### the cut -/
theorem lowss_all (m : Nat) : ∀ l : List (List AV), lowss m l = l.all (lows m)
  | [] => rfl
  | a :: l => by rw [lowss, lowss_all m l]; rfl
section
variable {a b : Nat}
mutual
theorem ren_low (hab : ∀ i, Nat.blt (ρ i) b = Nat.blt i a) : ∀ v : AV, (v.ren ρ).low b = v.low a
  | .any => rfl
  | .val _ => rfl
  | .slice _ rows _ => by rw [AV.ren, AV.low, AV.low]; exact ren_lowss hab rows
  | .ref cs => by rw [AV.ren, AV.low, AV.low]; exact ren_lows hab cs
  | .ptr id _ => by rw [AV.ren, AV.low, AV.low]; exact hab id
  | .lp _ _ _ => rfl
  | .func _ x y => by rw [AV.ren, AV.low, AV.low, ren_lows hab x, ren_lows hab y]
  | .iface _ v => by rw [AV.ren, AV.low, AV.low]; exact ren_low hab v
  | .agg cs => by rw [AV.ren, AV.low, AV.low]; exact ren_lows hab cs
  | .tuple vs => by rw [AV.ren, AV.low, AV.low]; exact ren_lows hab vs
theorem ren_lows (hab : ∀ i, Nat.blt (ρ i) b = Nat.blt i a) : ∀ l : List AV, lows b (rens ρ l) = lows a l
  | [] => rfl
  | v :: l => by rw [rens, lows, lows, ren_low hab v, ren_lows hab l]
theorem ren_lowss (hab : ∀ i, Nat.blt (ρ i) b = Nat.blt i a) : ∀ l : List (List AV), lowss b (renss ρ l) = lowss a l
  | [] => rfl
  | r :: l => by rw [renss, lowss, lowss, ren_lows hab r, ren_lowss hab l]
end
mutual
theorem low_mono (hab : a ≤ b) : ∀ v : AV, v.low a = true → v.low b = true
  | .any => fun _ => rfl
  | .val _ => fun _ => rfl
  | .slice _ rows _ => by rw [AV.low, AV.low]; exact lowss_mono hab rows
  | .ref cs => by rw [AV.low, AV.low]; exact lows_mono hab cs
  | .ptr id _ => by rw [AV.low, AV.low, Nat.blt_eq, Nat.blt_eq]; omega
  | .lp _ _ _ => fun _ => rfl
  | .func _ x y => by
    rw [AV.low, AV.low, Bool.and_eq_true, Bool.and_eq_true]
    exact fun h => ⟨lows_mono hab x h.1, lows_mono hab y h.2⟩
  | .iface _ v => by rw [AV.low, AV.low]; exact low_mono hab v
  | .agg cs => by rw [AV.low, AV.low]; exact lows_mono hab cs
  | .tuple vs => by rw [AV.low, AV.low]; exact lows_mono hab vs
theorem lows_mono (hab : a ≤ b) : ∀ l : List AV, lows a l = true → lows b l = true
  | [] => fun _ => rfl
  | v :: l => by
    rw [lows, lows, Bool.and_eq_true, Bool.and_eq_true]
    exact fun h => ⟨low_mono hab v h.1, lows_mono hab l h.2⟩
theorem lowss_mono (hab : a ≤ b) : ∀ l : List (List AV), lowss a l = true → lowss b l = true
  | [] => fun _ => rfl
  | v :: l => by
    rw [lowss, lowss, Bool.and_eq_true, Bool.and_eq_true]
    exact fun h => ⟨lows_mono hab v h.1, lowss_mono hab l h.2⟩
end
end
theorem Fr.blt (hf : Fr ρ n N F) {m : Nat} (hm : n ≤ m) (i : Nat) : Nat.blt (ρ i) (m - n + N) = Nat.blt i m := by
  rw [Bool.eq_iff_iff, Nat.blt_eq, Nat.blt_eq]
  rcases Nat.lt_or_ge i n with hi | hi
  · have := hf.lo i hi; omega
  · have := hf.hi i hi; omega
theorem HR.lowss (hf : Fr ρ n N F) {H K : Heap} (h : HR ρ n N F H K) {m : Nat} (hm : n ≤ m) : lowss (m - n + N) (K.take (m - n + N)) = lowss m (H.take m) := by
  rw [Bool.eq_iff_iff, lowss_all, lowss_all, List.all_eq_true, List.all_eq_true]
  have im : ∀ (i : Nat) cs, H[i]? = some cs → lows (m - n + N) (cs.map (AV.ren ρ)) = lows m cs := fun i cs _ => by
    rw [← rens_map]; exact ren_lows (hf.blt hm) cs
  constructor
  · intro hk cs hcs
    obtain ⟨i, hi, rfl⟩ := List.mem_iff_getElem.1 hcs
    simp only [List.length_take] at hi
    rw [List.getElem_take]
    have e := h.im i
    have e0 : H[i]? = some (H[i]'(by omega)) := List.getElem?_eq_getElem (by omega)
    rw [e0] at e
    rw [← im i _ e0]
    refine hk _ (List.mem_of_getElem? (i := ρ i) ?_)
    rw [List.getElem?_take, if_pos]
    · exact e
    · have := hf.blt hm i
      rw [Bool.eq_iff_iff, Nat.blt_eq, Nat.blt_eq] at this
      exact this.2 (by omega)
  · intro hh cs hcs
    obtain ⟨j, hj, rfl⟩ := List.mem_iff_getElem.1 hcs
    simp only [List.length_take] at hj
    rw [List.getElem_take]
    have him : ∀ i, i < m → ρ i = j → lows (m - n + N) (K[j]'(by omega)) = true := by
      intro i hi e
      subst e
      have e := h.im i
      rw [List.getElem?_eq_getElem (by omega)] at e
      cases hHi : H[i]? with
      | none => rw [hHi] at e; cases e
      | some cs =>
        rw [hHi] at e
        simp only [Option.map_some, Option.some.injEq] at e
        rw [e, im i cs hHi]
        refine hh cs (List.mem_of_getElem? (i := i) ?_)
        rw [List.getElem?_take, if_pos hi]; exact hHi
    by_cases hex : ∃ i, i < m ∧ ρ i = j
    · obtain ⟨i, hi, e⟩ := hex; exact him i hi e
    · have hjN : j < N := by
        rcases Nat.lt_or_ge j N with h1 | h1
        · exact h1
        · exact absurd ⟨j - N + n, by omega, by have := hf.hi (j - N + n) (by omega); omega⟩ hex
      have e := h.off j hjN (fun i hi e => hex ⟨i, by omega, e⟩)
      rw [List.getElem?_eq_getElem (by omega)] at e
      exact lows_mono (by omega) _ (hf.low j _ e.symm hjN (fun i hi e => hex ⟨i, by omega, e⟩))
theorem HR.take (hf : Fr ρ n N F) {H K : Heap} (h : HR ρ n N F H K) {m : Nat} (hm : n ≤ m) : HR ρ n N F (H.take m) (K.take (m - n + N)) := by
  have h1 := h.le
  have h2 := h.len
  refine ⟨by simp; omega, by simp; omega, ?_, ?_⟩
  · intro i
    have := hf.blt hm i
    rw [Bool.eq_iff_iff, Nat.blt_eq, Nat.blt_eq] at this
    rw [List.getElem?_take, List.getElem?_take]
    by_cases hi : i < m
    · rw [if_pos hi, if_pos (this.2 hi)]; exact h.im i
    · rw [if_neg hi, if_neg (fun hh => hi (this.1 hh))]; rfl
  · intro j hj hn
    rw [List.getElem?_take, if_pos (by omega)]; exact h.off j hj hn
theorem lowL_ren {a b : Nat} (hab : ∀ i, Nat.blt (ρ i) b = Nat.blt i a) : ∀ l : List (Option LCell), lowL b (l.map (Option.map (renL ρ))) = lowL a l
  | [] => rfl
  | none :: l => by simp only [List.map_cons, Option.map_none, lowL]; exact lowL_ren hab l
  | some (g, cs) :: l => by simp only [List.map_cons, Option.map_some, renL, lowL, lowL_ren hab l, ← rens_map, ren_lows hab]
theorem lowD_ren {a b : Nat} (hab : ∀ i, Nat.blt (ρ i) b = Nat.blt i a) : ∀ l : List ADef, lowD b (l.map (renD ρ)) = lowD a l
  | [] => rfl
  | d :: l => by simp only [List.map_cons, renD, lowD, lowD_ren hab l, ← rens_map, ren_lows hab]
theorem lowRM_ren {a b : Nat} (hab : ∀ i, Nat.blt (ρ i) b = Nat.blt i a) (m : RM) : lowRM b (renRM ρ m) = lowRM a m := by
  cases m with
  | panicking v r => exact ren_low hab v
  | _ => rfl
theorem cutSt_ren (hf : Fr ρ n N F) {s s' : St} (hs : SRl ρ n N F s s') : SRl ρ n N F (cutSt s) (cutSt s') := by
  obtain ⟨hb1, hb2⟩ := hs.g.bs
  have h2 := hs.g.H.len
  have h1 := hs.g.H.le
  have e1 : Nat.ble s'.g.H.length s'.g.base = Nat.ble s.g.H.length s.g.base := by
    rw [Bool.eq_iff_iff, Nat.ble_eq, Nat.ble_eq]; omega
  have e2 : lowSt s'.g.base s' = lowSt s.g.base s := by
    have hab := hf.blt hb1
    unfold lowSt
    rw [hs.t, hs.l, hs.g.df, hs.g.rm, hb2, lowL_ren hab, lowD_ren hab, lowRM_ren hab, hs.g.H.lowss hf hb1, ← rens_map, ren_lows hab]
  unfold cutSt
  rw [e1, e2]
  split
  · exact hs
  · split
    · refine ⟨hs.t, hs.l, ?_, hs.g.df, hs.g.rm, hs.g.bs⟩
      simp only
      rw [hb2]; exact hs.g.H.take hf hb1
    · exact hs
theorem maskSt_ren (hf : Fr ρ n N F) {live : Option Nat} {s s' s1 : St} (h : maskSt live s = some s1) (hs : SRl ρ n N F s s') : ∃ s1', maskSt live s' = some s1' ∧ SRl ρ n N F s1 s1' := by
  unfold maskSt at h ⊢
  cases live with
  | none =>
    simp only [Option.some.injEq] at h; subst h
    exact ⟨s', rfl, hs⟩
  | some m =>
    simp only at h ⊢
    have e : (maskTmps m 0 s'.tmps).all (lpIn m) = (maskTmps m 0 s.tmps).all (lpIn m) := by
      rw [hs.t, ren_maskTmps, List.all_map]
      congr 1; funext v; exact ren_lpIn m v
    rw [e]
    split at h
    · rename_i hc
      rw [if_pos hc]
      have h0 : SRl ρ n N F { s with tmps := maskTmps m 0 s.tmps, lh := maskLh m 0 s.lh } { s' with tmps := maskTmps m 0 s'.tmps, lh := maskLh m 0 s'.lh } :=
        ⟨by rw [hs.t]; exact ren_maskTmps .., by rw [hs.l]; exact ren_maskLh .., hs.g⟩
      split at h
      · simp only [Option.some.injEq] at h; subst h
        exact ⟨_, rfl, cutSt_ren hf h0⟩
      · simp only [Option.some.injEq] at h; subst h
        exact ⟨_, rfl, h0⟩
    · cases h
theorem aloop_ren (hf : Fr ρ n N F) {live : Option Nat} {body : St → Option (AX × St)} (hb : ∀ s s' x s1, body s = some (x, s1) → SRl ρ n N F s s' → ∃ s1', body s' = some (renX ρ x, s1') ∧ SRl ρ n N F s1 s1') :
    ∀ {k : Nat} {s s' : St} {x : AX} {s1 : St}, aloop live body k s = some (x, s1) → SRl ρ n N F s s' → ∃ s1', aloop live body k s' = some (renX ρ x, s1') ∧ SRl ρ n N F s1 s1' := by
  intro k
  induction k with
  | zero => intro s s' x s1 h; simp [aloop] at h
  | succ k ih =>
    intro s s' x s1 h hs
    simp only [aloop] at h ⊢
    cases hm : maskSt live s with
    | none => rw [hm] at h; cases h
    | some s0 =>
      obtain ⟨s0', h1, h2⟩ := maskSt_ren hf hm hs
      rw [hm] at h
      rw [h1]
      simp only at h ⊢
      cases hp : body s0 with
      | none => rw [hp] at h; cases h
      | some p =>
        obtain ⟨y, s2⟩ := p
        obtain ⟨s2', h3, h4⟩ := hb _ _ _ _ hp h2
        rw [hp] at h
        rw [h3]
        cases y with
        | normal => exact ih h h4
        | exit id =>
          simp only [Option.some.injEq, Prod.mk.injEq] at h
          obtain ⟨rfl, rfl⟩ := h; exact ⟨_, rfl, h4⟩
        | ret =>
          simp only [Option.some.injEq, Prod.mk.injEq] at h
          obtain ⟨rfl, rfl⟩ := h; exact ⟨_, rfl, h4⟩
        | panic v =>
          simp only [Option.some.injEq, Prod.mk.injEq] at h
          obtain ⟨rfl, rfl⟩ := h; exact ⟨_, rfl, h4⟩
theorem acode_ren (hf : Fr ρ n N F) (hc : CallR ρ n N F call) {k : Nat} {f : FuncId} : ∀ {c : Code} {b : Nat} {s s' : St} {x : AX} {s1 : St}, acode P cfg call k f b c s = some (x, s1) → SRl ρ n N F s s' →
    ∃ s1', acode P cfg call k f b c s' = some (renX ρ x, s1') ∧ SRl ρ n N F s1 s1' := by
  intro c
  induction c with
  | skip =>
    intro b s s' x s1 h hs
    simp only [acode, Option.some.injEq, Prod.mk.injEq] at h ⊢
    obtain ⟨rfl, rfl⟩ := h
    exact ⟨s', ⟨rfl, rfl⟩, hs⟩
  | region id ops d =>
    intro b s s' x s1 h hs
    cases d with
    | false => simp only [acode] at h ⊢; exact aops_ren hf hc h hs
    | true =>
      simp only [acode] at h ⊢
      cases hp : adraw P cfg call f ops ops.toList 0 [] [] s with
      | none =>
        rw [hp] at h
        cases hq : adrawP P cfg call f ops none ops.toList 0 [] [] s with
        | none => rw [hq] at h; cases h
        | some p =>
          obtain ⟨v, s2⟩ := p
          obtain ⟨s2', h1, h2⟩ := adrawP_ren hf hc hq hs
          rw [hq] at h
          rw [Option.map_none] at h1
          rw [adrawP_none h1, h1]
          simp only [Option.some.injEq, Prod.mk.injEq] at h
          obtain ⟨rfl, rfl⟩ := h
          exact ⟨_, rfl, maskAll_ren h2⟩
      | some s2 =>
        obtain ⟨s2', h1, h2⟩ := adraw_ren hf hc hp hs
        rw [hp] at h
        rw [h1]
        simp only [Option.some.injEq, Prod.mk.injEq] at h
        obtain ⟨rfl, rfl⟩ := h
        exact ⟨_, rfl, h2⟩
  | seq c1 c2 ih1 ih2 =>
    intro b s s' x s1 h hs
    simp only [acode] at h ⊢
    cases hp : acode P cfg call k f b c1 s with
    | none => rw [hp] at h; cases h
    | some p =>
      obtain ⟨y, s2⟩ := p
      obtain ⟨s2', h1, h2⟩ := ih1 hp hs
      rw [hp] at h
      rw [h1]
      cases y with
      | normal =>
        simp only [renX] at h ⊢
        split at h
        · rename_i s3 hm
          obtain ⟨s3', h3, h4⟩ := maskSt_ren hf hm h2
          rw [h3]
          exact ih2 h h4
        · cases h
      | exit id =>
        simp only [Option.some.injEq, Prod.mk.injEq] at h
        obtain ⟨rfl, rfl⟩ := h; exact ⟨_, rfl, h2⟩
      | ret =>
        simp only [Option.some.injEq, Prod.mk.injEq] at h
        obtain ⟨rfl, rfl⟩ := h; exact ⟨_, rfl, h2⟩
      | panic v =>
        simp only [Option.some.injEq, Prod.mk.injEq] at h
        obtain ⟨rfl, rfl⟩ := h; exact ⟨_, rfl, h2⟩
  | cond c x y ihx ihy =>
    intro b s s' x s1 h hs
    simp only [acode] at h ⊢
    rw [hs.t, ren_aeval]
    split at h
    · rename_i e; rw [e]; exact ihx h hs
    · rename_i e; rw [e]; exact ihy h hs
    · cases h
  | block id c ih =>
    intro b s s' x s1 h hs
    simp only [acode] at h ⊢
    cases hp : acode P cfg call k f id c s with
    | none => rw [hp] at h; cases h
    | some p =>
      obtain ⟨y, s2⟩ := p
      obtain ⟨s2', h1, h2⟩ := ih hp hs
      rw [hp] at h
      rw [h1]
      cases y with
      | exit id' =>
        simp only [renX] at h ⊢
        split at h
        · rename_i e
          rw [if_pos e]
          simp only [Option.some.injEq, Prod.mk.injEq] at h
          obtain ⟨rfl, rfl⟩ := h; exact ⟨_, rfl, h2⟩
        · rename_i e
          rw [if_neg e]
          simp only [Option.some.injEq, Prod.mk.injEq] at h
          obtain ⟨rfl, rfl⟩ := h; exact ⟨_, rfl, h2⟩
      | normal =>
        simp only [Option.some.injEq, Prod.mk.injEq] at h
        obtain ⟨rfl, rfl⟩ := h; exact ⟨_, rfl, h2⟩
      | ret =>
        simp only [Option.some.injEq, Prod.mk.injEq] at h
        obtain ⟨rfl, rfl⟩ := h; exact ⟨_, rfl, h2⟩
      | panic v =>
        simp only [Option.some.injEq, Prod.mk.injEq] at h
        obtain ⟨rfl, rfl⟩ := h; exact ⟨_, rfl, h2⟩
  | scope c ih =>
    intro b s s' x s1 h hs
    simp only [acode] at h ⊢
    exact ih h hs
  | label l =>
    intro b s s' x s1 h hs
    simp only [acode, Option.some.injEq, Prod.mk.injEq] at h ⊢
    obtain ⟨rfl, rfl⟩ := h
    exact ⟨s', ⟨rfl, rfl⟩, hs⟩
  | loop c ih =>
    intro b s s' x s1 h hs
    simp only [acode] at h ⊢
    exact aloop_ren hf (fun s s' x s1 h hs => ih h hs) h hs
  | exit id =>
    intro b s s' x s1 h hs
    simp only [acode, Option.some.injEq, Prod.mk.injEq] at h ⊢
    obtain ⟨rfl, rfl⟩ := h
    exact ⟨s', ⟨rfl, rfl⟩, hs⟩
  | ret =>
    intro b s s' x s1 h hs
    simp only [acode, Option.some.injEq, Prod.mk.injEq] at h ⊢
    obtain ⟨rfl, rfl⟩ := h
    exact ⟨s', ⟨rfl, rfl⟩, hs⟩
  | _ => intro b s s' x s1 h; simp [acode] at h
theorem ren_settle (m : RM) : settleA (renRM ρ m) = renRM ρ (settleA m) := by
  cases m with
  | panicking v r => cases r <;> rfl
  | _ => rfl
theorem adefers_ren (hc : CallR ρ n N F call) : ∀ {l : List ADef} {m : RM} {H K : Heap} {m1 : RM} {H1 : Heap}, adefers call l m H = some (m1, H1) → HR ρ n N F H K →
    ∃ K1, adefers call (l.map (renD ρ)) (renRM ρ m) K = some (renRM ρ m1, K1) ∧ HR ρ n N F H1 K1 := by
  intro l
  induction l with
  | nil =>
    intro m H K m1 H1 h hH
    simp only [adefers, Option.some.injEq, Prod.mk.injEq] at h
    obtain ⟨rfl, rfl⟩ := h
    exact ⟨K, rfl, hH⟩
  | cons d l ih =>
    intro m H K m1 H1 h hH
    simp only [List.map_cons, adefers, renD] at h ⊢
    split at h
    · rename_i v m' H' e
      obtain ⟨⟨o, rm', K'⟩, e', h1, h2, h3⟩ := hc _ _ _ _ _ e _ hH
      simp only [renOut] at h1 h2; subst h1; subst h2
      rw [e']
      simp only [ren_settle]
      exact ih h h3
    · rename_i v m' H' e
      obtain ⟨⟨o, rm', K'⟩, e', h1, h2, h3⟩ := hc _ _ _ _ _ e _ hH
      simp only [renOut] at h1; subst h1
      rw [e']
      exact ih h h3
    · cases h
theorem aresult_ren {s s' : St} {H K : Heap} (hs : SRl ρ n N F s s') (hH : HR ρ n N F H K) (r : ResultVar) {v : AV} (h : aresult P s H r = some v) : aresult P s' K r = some (v.ren ρ) := by
  cases r with
  | tmp t =>
    simp only [aresult, hs.t, getD_ren, ren_isLp] at h ⊢
    split at h
    · cases h
    · rename_i e
      rw [if_neg e]
      simp only [Option.some.injEq] at h; subst h; rfl
  | cell a t =>
    simp only [aresult, hs.t, hs.l, getD_ren] at h ⊢
    cases ha : s.tmps.getD a .any with
    | ref cs =>
      rw [ha] at h
      simp only [ren_ref] at h ⊢
      rw [ren_readCells, h]; rfl
    | ptr id o =>
      rw [ha] at h
      simp only [ren_ptr, hH.im] at h ⊢
      cases hc : H[id]? with
      | none => rw [hc] at h; cases h
      | some cs =>
        rw [hc] at h
        simp only [Option.map_some] at h ⊢
        rw [ren_readCells, h]; rfl
    | lp l g o =>
      rw [ha] at h
      simp only [ren_lp, List.getElem?_map] at h ⊢
      cases hc : s.lh[l]? with
      | none => rw [hc] at h; cases h
      | some c => cases c with
        | none => rw [hc] at h; cases h
        | some c =>
          obtain ⟨g', cs⟩ := c
          rw [hc] at h
          simp only [Option.map_some, renL] at h ⊢
          split at h
          · rename_i e
            rw [if_pos e, ren_readCells, h]; rfl
          · cases h
    | _ => rw [ha] at h; simp at h
theorem aresults_ren {s s' : St} {H K : Heap} (hs : SRl ρ n N F s s') (hH : HR ρ n N F H K) : ∀ (rs : List ResultVar) {l : List AV}, aresults P s H rs = some l → aresults P s' K rs = some (l.map (AV.ren ρ))
  | [], l, h => by simp only [aresults, Option.some.injEq] at h; subst h; rfl
  | r :: rs, l, h => by
    simp only [aresults] at h ⊢
    cases h1 : aresult P s H r with
    | none => rw [h1] at h; cases h
    | some v => cases h2 : aresults P s H rs with
      | none => rw [h1, h2] at h; cases h
      | some l' =>
        rw [h1, h2] at h
        simp only [Option.some.injEq] at h; subst h
        rw [aresult_ren hs hH r h1, aresults_ren hs hH rs h2]; rfl
theorem ren_resultOf (l : List AV) : resultOf (l.map (AV.ren ρ)) = (resultOf l).ren ρ := by
  match l with
  | [] => simp [resultOf]
  | [v] => rfl
  | a :: b :: r =>
    simp only [List.map_cons, resultOf, ren_tuple, AV.tuple.injEq, ren_dis, List.cons.injEq, true_and]
    exact (ren_dis_map r).symm
theorem afinish_ren (hc : CallR ρ n N F call) {fn : Func} {s s' : St} {m : RM} {r : CRes} (h : afinish P call fn s m = some r) (hs : SRl ρ n N F s s') :
    ∃ r', afinish P call fn s' (renRM ρ m) = some r' ∧ RRl ρ n N F r r' := by
  unfold afinish at h ⊢
  rw [hs.g.rm, hs.g.df]
  cases hrm : s.g.rm with
  | none =>
    rw [hrm] at h
    have e0 : renRM ρ .none = .none := rfl
    simp only [e0] at h ⊢
    split at h
    · rename_i H e
      obtain ⟨K1, h1, h2⟩ := adefers_ren hc e hs.g.H
      rw [h1]
      simp only [renRM]
      split at h
      · rename_i l e2
        simp only [Option.some.injEq] at h; subst h
        rw [aresults_ren hs h2 _ e2]
        exact ⟨_, rfl, ⟨by simp only [renOut, ren_resultOf], rfl, h2⟩⟩
      · cases h
    · rename_i v H e
      obtain ⟨K1, h1, h2⟩ := adefers_ren hc e hs.g.H
      rw [h1]
      simp only [Option.some.injEq] at h; subst h
      exact ⟨_, rfl, ⟨rfl, rfl, h2⟩⟩
    · cases h
  | returning =>
    rw [hrm] at h
    simp only [renRM, List.isEmpty_map] at h ⊢
    split at h
    · rename_i he
      rw [if_pos he]
      cases m with
      | returning =>
        simp only at h ⊢
        split at h
        · rename_i l e2
          simp only [Option.some.injEq] at h; subst h
          rw [aresults_ren hs hs.g.H _ e2]
          exact ⟨_, rfl, ⟨by simp only [renOut, ren_resultOf], rfl, hs.g.H⟩⟩
        · cases h
      | panicking v b => cases b with
        | false =>
          simp only [Option.some.injEq] at h; subst h
          exact ⟨_, rfl, ⟨rfl, rfl, hs.g.H⟩⟩
        | true => cases h
      | none => cases h
    · cases h
  | panicking v0 b0 =>
    rw [hrm] at h
    simp only [renRM, List.isEmpty_map] at h ⊢
    split at h
    · rename_i he
      rw [if_pos he]
      cases m with
      | returning =>
        simp only at h ⊢
        split at h
        · rename_i l e2
          simp only [Option.some.injEq] at h; subst h
          rw [aresults_ren hs hs.g.H _ e2]
          exact ⟨_, rfl, ⟨by simp only [renOut, ren_resultOf], rfl, hs.g.H⟩⟩
        · cases h
      | panicking v b => cases b with
        | false =>
          simp only [Option.some.injEq] at h; subst h
          exact ⟨_, rfl, ⟨rfl, rfl, hs.g.H⟩⟩
        | true => cases h
      | none => cases h
    · cases h
theorem abody_ren (hf : Fr ρ n N F) (hc : CallR ρ n N F call) {k : Nat} {f : FuncId} {fn : Func} {c : Code} {args : List AV} {rm : RM} {H K : Heap} {r : CRes} (h : abody P cfg call k f fn c args rm H = some r) (hH : HR ρ n N F H K) :
    ∃ r', abody P cfg call k f fn c (args.map (AV.ren ρ)) (renRM ρ rm) K = some r' ∧ RRl ρ n N F r r' := by
  unfold abody at h ⊢
  have h0 : SRl ρ n N F ⟨args ++ List.replicate (fn.ntmps - args.length) (.val undef), List.replicate fn.ntmps none, ⟨H, [], rm, H.length⟩⟩
      ⟨args.map (AV.ren ρ) ++ List.replicate (fn.ntmps - (args.map (AV.ren ρ)).length) (.val undef), List.replicate fn.ntmps none, ⟨K, [], renRM ρ rm, K.length⟩⟩ :=
    ⟨by simp, by simp, ⟨hH, rfl, rfl, hH.le, hH.len⟩⟩
  split at h
  · rename_i s e
    obtain ⟨s', e', hs⟩ := acode_ren hf hc e h0
    rw [e']
    exact afinish_ren hc h hs
  · rename_i s e
    obtain ⟨s', e', hs⟩ := acode_ren hf hc e h0
    rw [e']
    exact afinish_ren hc h hs
  · rename_i v s e
    obtain ⟨s', e', hs⟩ := acode_ren hf hc e h0
    rw [e']
    exact afinish_ren hc h hs
  · cases h
theorem cutRes_ren (hf : Fr ρ n N F) {r r' : CRes} (h : RRl ρ n N F r r') {H K : Heap} (hH : HR ρ n N F H K) : RRl ρ n N F (cutRes H.length r) (cutRes K.length r') := by
  have h1 := hH.le
  have h2 := hH.len
  have h3 := h.H.len
  have h4 := h.H.le
  have e1 : Nat.ble r'.H.length K.length = Nat.ble r.H.length H.length := by
    rw [Bool.eq_iff_iff, Nat.ble_eq, Nat.ble_eq]; omega
  have e2 : r'.out.low K.length = r.out.low H.length := by
    rw [h.o, h2]
    cases r.out with
    | ret v => exact ren_low (hf.blt h1) v
    | panic v => exact ren_low (hf.blt h1) v
  have e3 : Eng.lowss K.length (r'.H.take K.length) = Eng.lowss H.length (r.H.take H.length) := by
    rw [h2]; exact h.H.lowss hf h1
  unfold cutRes
  rw [e1, e2, e3]
  split
  · exact h
  · split
    · refine ⟨h.o, h.rm, ?_⟩
      rw [h2]; exact h.H.take hf h1
    · exact h
theorem normV_ren (t : TypeId) (v : AV) : (normV P t v).ren ρ = normV P t (v.ren ρ) := by
  cases v with
  | agg cs =>
    unfold normV
    simp only [AV.ren]
    split
    · split
      · simp only [AV.ren, normCs_ren]
      · rfl
    · rfl
  | slice sz rows own => exact normS_ren (P := P) (ρ := ρ) t (.slice sz rows own)
  | _ => rfl
theorem normL_ren : ∀ (ts : List TypeId) (vs : List AV), rens ρ (normL P ts vs) = normL P ts (rens ρ vs)
  | [], vs => by unfold normL; rfl
  | t :: ts, [] => rfl
  | t :: ts, v :: vs => by simp only [normL, rens, normV_ren, normL_ren ts vs]
theorem normRes_ren {b : Bool} {ts : List TypeId} {r r' : CRes} (h : RRl ρ n N F r r') : RRl ρ n N F (normRes P b ts r) (normRes P b ts r') := by
  cases b with
  | false => exact h
  | true =>
    refine ⟨?_, h.rm, h.H⟩
    simp only [normRes, h.o]
    cases r.out with
    | panic v => rfl
    | ret v =>
      simp only [normO, renOut]
      split
      · simp only [normV_ren]
      · cases v with
        | tuple vs => simp only [AV.ren, normL_ren]
        | _ => rfl
/-- Contracts go along with a heap that is greater. -/
def ExtR (ρ : Nat → Nat) (n N : Nat) (F : Heap) (ext : Ext) : Prop :=
  ∀ f e, ext f = some e → ∀ args H out H', e args H = some (out, H') → ∀ K, HR ρ n N F H K → ∃ K', e (args.map (AV.ren ρ)) K = some (renOut ρ out, K') ∧ HR ρ n N F H' K'
theorem acall_ren {ext : Ext} (hf : Fr ρ n N F) (hx : ExtR ρ n N F ext) : ∀ k, CallR ρ n N F (acall P cfg ext k) := by
  intro k
  induction k with
  | zero => intro f args rm H r h; simp [acall] at h
  | succ k ih =>
    intro f args rm H r h K hH
    simp only [acall] at h ⊢
    split at h
    · rename_i e he
      split at h
      · split at h
        · rename_i out H' heq
          simp only [Option.some.injEq] at h; subst h
          obtain ⟨K', k1, k2⟩ := hx f e he args H out H' heq K hH
          simp only [renRM, k1]
          exact ⟨_, rfl, rfl, rfl, k2⟩
        · cases h
      · cases h
    · split at h
      · cases h
      · split at h
        · cases h
        rw [Option.map_eq_some_iff] at h
        obtain ⟨r0, h, rfl⟩ := h
        obtain ⟨r', h1, h2⟩ := abody_ren hf ih h hH
        rw [h1]
        refine ⟨_, rfl, ?_⟩
        cases rm with
        | none => exact normRes_ren (cutRes_ren hf h2 hH)
        | returning => exact normRes_ren h2
        | panicking v b => exact normRes_ren h2
/-- What a function does in a heap it does in a greater one. -/
theorem ev_ren {ext : Ext} (hf : Fr ρ n N F) (hx : ExtR ρ n N F ext) : CallR ρ n N F (ev P cfg ext) := by
  intro f args rm H r h K hH
  obtain ⟨k, hk⟩ := ev_iff.1 h
  obtain ⟨r', h1, h2⟩ := acall_ren hf hx k f args rm H r hk K hH
  exact ⟨r', ev_iff.2 ⟨k, h1⟩, h2⟩
end
end Go.Eng
end
