/-
  THE ENGINE, part 16: what the interpreter answers to a call, the model answers.
-/
import Derived.Test.YtnohjjhgdkpgcaaDoorE15b
set_option linter.unusedVariables false
set_option linter.unusedSimpArgs false
namespace Go.Eng

/-- What is asked of contracts that stand in place of code. -/
def ExtSound (P : Program) (I0 : Mem) (ext : Ext) : Prop :=
  ∀ f e, ext f = some e → ∀ args H out H', e args H = some (out, H') → ∀ I μ HV w cargs, LeM I0 I → HInv I μ HV w H → RepL I μ cargs args → AllSpare I w cargs args → (∀ b, argTok μ HV H cargs args b ≤ 1) →
    Calls P f cargs.toArray w fun e w' => ∃ J ν HV', CPost I μ HV w H cargs args out H' J ν HV' e w'

theorem extSound_none (P : Program) (I0 : Mem) : ExtSound P I0 (fun _ => none) := fun f e h => by cases h

section
variable {P : Program} {cfg : FuncId → FCfg} {call : FuncId → List AV → RM → Heap → Option CRes}

theorem cpost_ret {I : Mem} {μ : List Nat} {HV : List (List Value)} {w : World} {H : Heap} {cargs : List Value} {args : List AV} {J : Mem} {ν : List Nat} {HV' : List (List Value)} {lv : List LV} {w' : World} {vs : List Value} {tm : List AV} {lh : List (Option LCell)} {H' : Heap}
    (h : FInv J ν HV' lv w' vs tm lh H') (he : Eff I w (fun b => 0 < argTok μ HV H cargs args b) J w') (ht : ∀ b, 0 < tok ν HV' H' lv lh vs tm b → 0 < argTok μ HV H cargs args b ∨ w.heap.size ≤ b) (hm : LeN μ ν)
    {v : Value} {a : AV} (hr : Rep J ν v a) (hs : SpareOk J w' v a) (hc : ∀ b, tc b v a ≤ tcs b vs tm) : CPost I μ HV w H cargs args (.ret a) H' J ν HV' (.returned v) w' :=
  ⟨h.h, he, hm, ⟨v, rfl, hr, hs⟩, fun b => by have := h.one b; have := hc b; simp only [outTok]; omega, fun b hb => by
    simp only [outTok] at hb
    have := hc b
    exact ht b (by unfold tok; omega)⟩

theorem cpost_panic {I : Mem} {μ : List Nat} {HV : List (List Value)} {w : World} {H : Heap} {cargs : List Value} {args : List AV} {J : Mem} {ν : List Nat} {HV' : List (List Value)} {lv : List LV} {w' : World} {vs : List Value} {tm : List AV} {lh : List (Option LCell)} {H' : Heap}
    (h : FInv J ν HV' lv w' vs tm lh H') (he : Eff I w (fun b => 0 < argTok μ HV H cargs args b) J w') (ht : ∀ b, 0 < tok ν HV' H' lv lh vs tm b → 0 < argTok μ HV H cargs args b ∨ w.heap.size ≤ b) (hm : LeN μ ν)
    {chain : List PanicEntry} {v : AV} (hr : ChainRel J ν chain v) : CPost I μ HV w H cargs args (.panic v) H' J ν HV' (.panicked chain) w' :=
  ⟨h.h, he, hm, ⟨chain, rfl, hr⟩, fun b => by have := h.one b; simp only [outTok]; omega, fun b hb => by
    simp only [outTok] at hb
    exact ht b (by unfold tok; omega)⟩

theorem rmok_none {I : Mem} {μ : List Nat} {cs0 cs : List Frame} {rm : RM} (h : RmOk I μ cs0 cs rm) (hr : rm.isNone = true) : rm = .none ∧ cs = cs0 := by
  cases rm with
  | none => exact ⟨rfl, h⟩
  | _ => simp [RM.isNone] at hr

theorem body_sound {I : Mem} (hcall : CallSound P I call) (hmix : P.follows .mixedOrders = true) {k : Nat} {f : FuncId} {fn : Func} {c : Code} (hf : P.funcs[f]? = some fn) (hb : fn.body = some c) {args : List AV} {rm : RM} {H : Heap} {res : CRes}
    (h : abody P cfg call k f fn c args rm H = some res) {μ : List Nat} {HV : List (List Value)} {w : World} {cargs : List Value} (hh : HInv I μ HV w H) (hr : RepL I μ cargs args) (hs : AllSpare I w cargs args)
    (h1 : ∀ b, argTok μ HV H cargs args b ≤ 1) :
    (rm = .none → Calls P f cargs.toArray w fun e w' => ∃ J ν HV', CPost I μ HV w H cargs args res.out res.H J ν HV' e w') ∧
    (∀ u, ModeRel I μ rm u → CallsD P f cargs.toArray u w fun e u' w' => ∃ J ν HV', CPost I μ HV w H cargs args res.out res.H J ν HV' e w' ∧ ModeRel J ν res.rm u') := by
  -- the body, and what follows it
  have hbody : ∀ (cs : List Frame) (kd : CallKind), RmOk I μ cs cs rm → (rm.isNone = false → kd = .deferred) → ∃ (x : AX) (s : St) (m : RM) (a' : Act) (cs' : List Frame) (w' : World) (I' : Mem) (μ' : List Nat) (HV' : List (List Value)) (lv' : List LV) (u : FrameMode) (todo : List Item),
      afinish P call fn s m = some res ∧ Good ⟨I, μ, w, fun b => 0 < argTok μ HV H cargs args b, cs, !rm.isNone⟩ s a' cs' w' I' μ' HV' lv' ∧ ModeRel I' μ' m u ∧
      Steps P (lone (Frame.enter P f cargs.toArray kd) cs w) (lone { ({ (default : Frame) with fn := f, kind := kd } : Frame).at a' todo with mode := u } cs' w') := by
    intro cs kd hrm hkd
    have hg := start_good hh hr hs h1 hrm fn.ntmps
    have henter : Frame.enter P f cargs.toArray kd = ({ (default : Frame) with fn := f, kind := kd } : Frame).at { tmps := cargs.toArray ++ Array.replicate (fn.ntmps - cargs.toArray.size) undef, defers := [] } [.code c] := by
      simp [Frame.enter, Frame.at, hf, hb]
    have hkd' : (!rm.isNone) = true → ({ (default : Frame) with fn := f, kind := kd } : Frame).kind = .deferred := fun h => hkd (by simpa using h)
    unfold abody at h
    split at h
    · rename_i s hc
      obtain ⟨a', cs', w', I', μ', HV', lv', g, st⟩ := code_sound hcall hmix c 0 hc hg (b := { (default : Frame) with fn := f, kind := kd }) (kk := []) hkd'
      exact ⟨.normal, s, .returning, a', cs', w', I', μ', HV', lv', .returning, [], h, g, rfl, by rw [henter]; exact st.trans (.one step_end)⟩
    · rename_i s hc
      obtain ⟨a', cs', w', I', μ', HV', lv', todo, g, st⟩ := code_sound hcall hmix c 0 hc hg (b := { (default : Frame) with fn := f, kind := kd }) (kk := []) hkd'
      exact ⟨.ret, s, .returning, a', cs', w', I', μ', HV', lv', .returning, todo, h, g, rfl, by rw [henter]; exact st⟩
    · rename_i v s hc
      obtain ⟨a', cs', w', I', μ', HV', lv', chain, g, hch, todo, st⟩ := code_sound hcall hmix c 0 hc hg (b := { (default : Frame) with fn := f, kind := kd }) (kk := []) hkd'
      obtain ⟨y, older, rfl, q1, q2⟩ := hch
      exact ⟨.panic v, s, .panicking v false, a', cs', w', I', μ', HV', lv', .panicking _, todo, h, g, ⟨y, older, rfl, q1, q2⟩, by rw [henter]; exact st⟩
    · cases h
  refine ⟨fun hrm0 cs => ?_, fun u hu c₀ cs hc₀ => ?_⟩
  · subst hrm0
    obtain ⟨x, s, m, a', cs', w', I', μ', HV', lv', u, todo, hfin, hg, hm, hst⟩ := hbody cs .normal rfl (fun h => by simp [RM.isNone] at h)
    have hgd := hg.dk
    simp only [RM.isNone, Bool.not_true, Bool.not_false] at hgd
    obtain ⟨hsr, hcs⟩ := rmok_none hg.rm (by simpa [RM.isNone] using hgd)
    simp only at hcs
    subst hcs
    unfold afinish at hfin
    rw [hsr] at hfin
    simp only at hfin
    have hL : ∀ {m' : RM} {H' : Heap}, adefers call s.g.defers m s.g.H = some (m', H') →
        (∀ {u' : FrameMode} {w'' : World} {J : Mem} {ν : List Nat} {HV'' : List (List Value)}, FInv J ν HV'' lv' w'' a'.tmps.toList s.tmps s.lh H' → ModeRel J ν m' u' → Eff I w (fun b => 0 < argTok μ HV H cargs args b) J w'' →
          (∀ b, 0 < tok ν HV'' H' lv' s.lh a'.tmps.toList s.tmps b → 0 < argTok μ HV H cargs args b ∨ w.heap.size ≤ b) → LeN μ ν → Leaves P fn a'.tmps (fun e w' => ∃ J ν HV', CPost I μ HV w H cargs args res.out res.H J ν HV' e w') [] u' w'') →
        ∃ e w'' fr, (∃ J ν HV', CPost I μ HV w H cargs args res.out res.H J ν HV' e w'') ∧ Comes P (lone (Frame.enter P f cargs.toArray .normal) cs' w) (lone fr cs' w'') e ∧ fr.fn = f ∧ fr.leaving P w'' e := by
      intro m' H' had hk
      have hl := defers_sound hcall s.g.defers had hg.inv hg.df hm hg.eff hg.tk hg.mu (fn := fn) (tmps := a'.tmps) (R := fun e w' => ∃ J ν HV', CPost I μ HV w H cargs args res.out res.H J ν HV' e w') hk
      obtain ⟨e', w'', fr', hR, hs', hfn', hl'⟩ := leaves_steps a'.defers u w' { ({ (default : Frame) with fn := f, kind := .normal } : Frame).at a' todo with mode := u } cs' rfl rfl rfl hf rfl hl
      exact ⟨e', w'', fr', hR, Comes.of_steps hst hs', hfn', hl'⟩
    split at hfin
    · rename_i H' had
      split at hfin
      · rename_i l hres
        simp only [Option.some.injEq] at hfin; subst hfin
        refine hL had fun {u' w'' J ν HV''} f1 f2 f3 f4 f5 => ?_
        have : u' = .returning := f2
        subst this
        obtain ⟨v, r1, r2, r3, r4⟩ := results_sound f1 hres
        exact ⟨v, r1, J, ν, HV'', cpost_ret f1 f3 f4 f5 r2 r3 r4⟩
      · cases hfin
    · rename_i v H' had
      simp only [Option.some.injEq] at hfin; subst hfin
      refine hL had fun {u' w'' J ν HV''} f1 f2 f3 f4 f5 => ?_
      obtain ⟨y, older, rfl, q1, q2⟩ := f2
      exact ⟨J, ν, HV'', cpost_panic f1 f3 f4 f5 ⟨y, older, rfl, q1, q2⟩⟩
    · cases hfin
  · have hnn : rm.isNone = false := by cases rm <;> first | exact hu.elim | rfl
    have hcc : ({ c₀ with mode := u } : Frame) = c₀ := by subst hc₀; rfl
    have hrmok : RmOk I μ (c₀ :: cs) (c₀ :: cs) rm := by
      cases rm with
      | none => exact hu.elim
      | returning => exact ⟨c₀, cs, u, rfl, by rw [hcc], hu⟩
      | panicking v r => exact ⟨c₀, cs, u, rfl, by rw [hcc], hu⟩
    obtain ⟨x, s, m, a', cs', w', I', μ', HV', lv', u1, todo, hfin, hg, hm, hst⟩ := hbody (c₀ :: cs) .deferred hrmok (fun _ => rfl)
    have hgd := hg.dk
    simp only [hnn, Bool.not_false, Bool.not_true] at hgd
    have hgr := hg.rm
    simp only at hgr
    have hsnn : ∃ u', cs' = { c₀ with mode := u' } :: cs ∧ ModeRel I' μ' s.g.rm u' := by
      cases hs : s.g.rm with
      | none => rw [hs] at hgd; simp [RM.isNone] at hgd
      | returning => rw [hs] at hgr; obtain ⟨c1, r1, u', e1, e2, e3⟩ := hgr; cases e1; exact ⟨u', e2, e3⟩
      | panicking v r => rw [hs] at hgr; obtain ⟨c1, r1, u', e1, e2, e3⟩ := hgr; cases e1; exact ⟨u', e2, e3⟩
    obtain ⟨u', hcs', hmr⟩ := hsnn
    have hfin2 : s.g.defers.isEmpty = true ∧ ((m = .returning ∧ ∃ l, aresults P s s.g.H fn.results.toList = some l ∧ res = ⟨.ret (resultOf l), s.g.rm, s.g.H⟩) ∨ (∃ v, m = .panicking v false ∧ res = ⟨.panic v, s.g.rm, s.g.H⟩)) := by
      unfold afinish at hfin
      split at hfin
      · rename_i hs; rw [hs] at hgd; simp [RM.isNone] at hgd
      · split at hfin
        · rename_i hem
          refine ⟨hem, ?_⟩
          split at hfin
          · split at hfin
            · rename_i l hres
              simp only [Option.some.injEq] at hfin
              exact .inl ⟨rfl, l, hres, hfin.symm⟩
            · cases hfin
          · rename_i v
            simp only [Option.some.injEq] at hfin
            exact .inr ⟨v, rfl, hfin.symm⟩
          · cases hfin
        · cases hfin
    obtain ⟨hem, hcase⟩ := hfin2
    have hdf : a'.defers = [] := by
      have h2 := hg.df
      have : s.g.defers = [] := by simpa using hem
      rw [this] at h2
      cases hd : a'.defers with
      | nil => rfl
      | cons d ds => rw [hd] at h2; exact h2.elim
    rw [hcs'] at hst
    rcases hcase with ⟨rfl, l, hres, rfl⟩ | ⟨v, rfl, rfl⟩
    · have : u1 = .returning := hm
      subst this
      obtain ⟨v, r1, r2, r3, r4⟩ := results_sound hg.inv hres
      exact ⟨.returned v, u', w', _, ⟨I', μ', HV', cpost_ret hg.inv hg.eff hg.tk hg.mu r2 r3 r4, hmr⟩, hst, rfl, rfl, hdf, fn, hf, r1⟩
    · obtain ⟨y, older, rfl, q1, q2⟩ := hm
      exact ⟨.panicked _, u', w', _, ⟨I', μ', HV', cpost_panic hg.inv hg.eff hg.tk hg.mu ⟨y, older, rfl, q1, q2⟩, hmr⟩, hst, rfl, rfl, hdf, fn, hf⟩

/-! ### results told by their types -/
theorem normV_rep {I : Mem} {μ : List Nat} {t : TypeId} {v : Value} {a : AV} (h : Rep I μ v a) : Rep I μ v (normV P t a) := by
  cases a with
  | slice sz rows own =>
    have hno : ∀ {n : Nat}, rows = [] ∨ n = sz → Rep I μ v (.slice n rows .no) := by
      intro n hn
      cases h with
      | slice0 sz own _ => exact .slice0 _ _ .nil
      | slice b o cap sz ws rows own hr h2 hl hc hf _ =>
        refine .slice b o cap n ws rows .no hr h2 (fun r hr => ?_) hc (fun h => by cases h) .nil
        rcases hn with rfl | rfl
        · cases hr
        · exact hl r hr
      | slice1 a cap sz own ho _ => exact .slice1 _ _ _ _ (.inl rfl) .nil
    unfold normV
    simp only
    split
    · split
      · split
        · exact hno (.inr rfl)
        · split
          · exact hno (.inl rfl)
          · exact h
      · exact h
    · exact h
  | _ => exact h
theorem normV_tc {b : Nat} {t : TypeId} {v : Value} {a : AV} : tc b v (normV P t a) ≤ tc b v a := by
  cases a with
  | slice sz rows own =>
    have hno : ∀ n (rows' : List (List AV)), tc b v (.slice n rows' .no) ≤ tc b v (.slice sz rows own) := by
      intro n rows'
      have : tc b v (.slice n rows' .no) = 0 := by unfold tc; split <;> simp_all
      omega
    unfold normV
    simp only
    split
    · split
      · split
        · exact hno _ _
        · split
          · exact hno _ _
          · exact Nat.le_refl _
      · exact Nat.le_refl _
    · exact Nat.le_refl _
  | _ => exact Nat.le_refl _
theorem normV_spare {I : Mem} {w : World} {t : TypeId} {v : Value} {a : AV} (h : SpareOk I w v a) : SpareOk I w v (normV P t a) := by
  cases a with
  | slice sz rows own =>
    have hno : ∀ n (rows' : List (List AV)), SpareOk I w v (.slice n rows' .no) := by
      intro n rows' _ _ _ _ _ _ _ h; cases h
    unfold normV
    simp only
    split
    · split
      · split
        · exact hno _ _
        · split
          · exact hno _ _
          · exact h
      · exact h
    · exact h
  | _ => exact h
theorem normL_rep {I : Mem} {μ : List Nat} : ∀ {ts : List TypeId} {vs : List Value} {as : List AV}, RepL I μ vs as → RepL I μ vs (normL P ts as)
  | [], _, _, h => by unfold normL; exact h
  | t :: ts, _, [], h => h
  | t :: ts, [], a :: as, h => by cases h
  | t :: ts, v :: vs, a :: as, h => by
    obtain ⟨h1, h2⟩ := h.uncons
    exact .cons (normV_rep h1) (normL_rep h2)
theorem CPost.norm {I J : Mem} {μ ν : List Nat} {HV HV' : List (List Value)} {w w' : World} {H : Heap} {cargs : List Value} {args : List AV} {r : CRes} {e : Ending} {b : Bool} {ts : List TypeId}
    (h : CPost I μ HV w H cargs args r.out r.H J ν HV' e w') : CPost I μ HV w H cargs args (normRes P b ts r).out (normRes P b ts r).H J ν HV' e w' := by
  cases b with
  | false => exact h
  | true =>
    have key : ∀ o, OutRel J ν w' o e → OutRel J ν w' (normO P ts o) e ∧ ∀ b, outTok b (normO P ts o) e ≤ outTok b o e := by
      intro o ho
      cases o with
      | panic v => exact ⟨ho, fun b => Nat.le_refl _⟩
      | ret v =>
        obtain ⟨v', rfl, h1, h2⟩ := ho
        unfold normO
        simp only
        split
        · exact ⟨⟨v', rfl, normV_rep h1, normV_spare h2⟩, fun b => normV_tc⟩
        · split
          · rename_i vs
            refine ⟨⟨v', rfl, ?_, fun _ _ _ _ _ _ _ h => by cases h⟩, fun b => ?_⟩
            · cases h1 with
              | tuple ws aws hw _ => exact .tuple ws _ (normL_rep hw) .nil
            · have : tc b v' (.tuple (normL P ts vs)) = 0 := by unfold tc; split <;> simp_all
              simp only [outTok, this]; omega
          · exact ⟨⟨v', rfl, h1, h2⟩, fun b => Nat.le_refl _⟩
    obtain ⟨k1, k2⟩ := key r.out h.outr
    exact ⟨h.h, h.eff, h.mu, k1, fun b => by have := h.one b; have := k2 b; simp only [normRes]; omega, fun b hb => h.tok b (by have := k2 b; simp only [normRes] at hb; omega)⟩

/-- The interpreter's calls are the model's. -/
theorem acall_sound (hmix : P.follows .mixedOrders = true) (hng : ∀ (f : FuncId) (fn : Func), P.funcs[f]? = some fn → (fn.name == "runtime.NumGoroutine") = false) {ext : Ext} {I0 : Mem} (hext : ExtSound P I0 ext) (hextb : ∀ (f : FuncId) e, ext f = some e → ∃ (fn : Func) (c : Code), P.funcs[f]? = some fn ∧ fn.body = some c) :
    ∀ k, CallSound P I0 (acall P cfg ext k) := by
  intro k
  induction k with
  | zero => intro f args rm H res h; simp [acall] at h
  | succ k ih =>
    intro f args rm H res h I μ HV w cargs hI hh hr hs h1
    simp only [acall] at h
    split at h
    · rename_i e he
      split at h
      · split at h
        · rename_i out H' heq
          simp only [Option.some.injEq] at h; subst h
          obtain ⟨fn, c, hf, hb⟩ := hextb f e he
          exact ⟨⟨fn, c, hf, hb, hng f fn hf⟩, hext f e he args H out H' heq I μ HV w cargs hI hh hr hs h1⟩
        · cases h
      · cases h
    · split at h
      · cases h
      · rename_i fn hf
        split at h
        · cases h
        · rename_i c hb
          rw [Option.map_eq_some_iff] at h
          obtain ⟨res0, h, rfl⟩ := h
          obtain ⟨b1, b2⟩ := body_sound (ih.mono hI) hmix hf hb h hh hr hs h1
          refine ⟨⟨fn, c, hf, hb, hng f fn hf⟩, ?_⟩
          cases rm with
          | none =>
            refine (b1 rfl).mono fun e w' ⟨J, ν, HV', hp⟩ => ?_
            obtain ⟨ν', HV'', hq⟩ := hp.cutRes hh.l1
            exact ⟨J, ν', HV'', hq.norm⟩
          | returning =>
            intro u hu
            refine (b2 u hu).mono ?_
            rintro e u' w' ⟨J, ν, HV', hp, hm⟩
            refine ⟨J, ν, HV', hp.norm, ?_⟩
            unfold normRes; split <;> exact hm
          | panicking v r =>
            intro u hu
            refine (b2 u hu).mono ?_
            rintro e u' w' ⟨J, ν, HV', hp, hm⟩
            refine ⟨J, ν, HV', hp.norm, ?_⟩
            unfold normRes; split <;> exact hm
end
end Go.Eng
