/-
  THE ENGINE, part 15: deferred calls, results, whole calls: what the interpreter answers, the model answers.
-/
import Derived.Test.YtnohjjhgdkpgcaaDoorE14
set_option linter.unusedVariables false
set_option linter.unusedSimpArgs false
namespace Go.Eng

section
variable {P : Program} {cfg : FuncId → FCfg} {call : FuncId → List AV → RM → Heap → Option CRes} {B : Base} {I J : Mem} {μ ν : List Nat}

theorem invoke_run {d : Deferred} {g : FuncId} {cap : Array Value} (hd : d.target = .fn (.func g) cap) {fn : Func} {body : Code} (hf : P.funcs[g]? = some fn) (hb : fn.body = some body) (hng : (fn.name == "runtime.NumGoroutine") = false) (w : World) :
    (invoke d.target d.args).run P w = .ok (.enter g (d.args ++ cap)) w := by
  have hng' : ¬ fn.name = "runtime.NumGoroutine" := by simpa using hng
  simp [hd, invoke, callFunc, hf, hb, hng']

theorem settle_rel {rm : RM} {u : FrameMode} (h : ModeRel I μ rm u) : ModeRel I μ (settleA rm) (settle u) := by
  cases rm with
  | none => exact h.elim
  | returning => have : u = .returning := h; subst this; rfl
  | panicking v r =>
    obtain ⟨x, older, rfl, h2, h3⟩ := h
    cases r with
    | false => exact ⟨x, older, rfl, h2, h3⟩
    | true =>
      have : older.dropWhile (!·.goexit) = [] := by
        induction older with
        | nil => rfl
        | cons e l ih =>
          have he := h2 e (by simp)
          simp only [List.dropWhile_cons, he, Bool.not_false, if_true]
          exact ih fun e' he' => h2 e' (by simp [he'])
      simp only [settle, this, ModeRel, settleA]

theorem raised_rel {rm : RM} {u : FrameMode} {v : AV} {chain : List PanicEntry} (h : ModeRel I μ rm u) (hc : ChainRel I μ chain v) : ModeRel I μ (.panicking v false) (raised u chain) := by
  obtain ⟨x, o, rfl, h2, h3⟩ := hc
  cases rm with
  | none => exact h.elim
  | returning => have : u = .returning := h; subst this; exact ⟨x, o, rfl, h2, h3⟩
  | panicking v' r =>
    obtain ⟨y, older, rfl, h5, h6⟩ := h
    refine ⟨x, o ++ ({ v := y, recovered := r, goexit := false } :: older), rfl, fun e he => ?_, h3⟩
    rcases List.mem_append.1 he with he | he
    · exact h2 e he
    · simp only [List.mem_cons] at he
      rcases he with rfl | he
      · rfl
      · exact h5 e he

theorem defers_sound {I0 : Mem} (hcall : CallSound P I0 call) {fn : Func} {tmps : Array Value} {R : Ending → World → Prop} {vs : List Value} {tm : List AV} {lh : List (Option LCell)} {lv : List LV} {A : Nat → Prop} {w0 : World} {μ0 : List Nat} :
    ∀ (ads : List ADef) {m m' : RM} {H H' : Heap}, adefers call ads m H = some (m', H') → ∀ {ds : List Deferred} {u : FrameMode} {w : World} {I : Mem} {μ : List Nat} {HV : List (List Value)},
      FInv I μ HV lv w vs tm lh H → DRel I μ ds ads → ModeRel I μ m u → Eff I0 w0 A I w → (∀ b, 0 < tok μ HV H lv lh vs tm b → A b ∨ w0.heap.size ≤ b) → LeN μ0 μ →
      (∀ {u' : FrameMode} {w' : World} {J : Mem} {ν : List Nat} {HV' : List (List Value)}, FInv J ν HV' lv w' vs tm lh H' → ModeRel J ν m' u' → Eff I0 w0 A J w' → (∀ b, 0 < tok ν HV' H' lv lh vs tm b → A b ∨ w0.heap.size ≤ b) → LeN μ0 ν → Leaves P fn tmps R [] u' w') →
      Leaves P fn tmps R ds u w := by
  intro ads
  induction ads with
  | nil =>
    intro m m' H H' h ds u w I μ HV h1 h2 h3 h4 h5 h6 hk
    simp only [adefers, Option.some.injEq, Prod.mk.injEq] at h
    obtain ⟨rfl, rfl⟩ := h
    cases ds with
    | nil => exact hk h1 h3 h4 h5 h6
    | cons d ds => exact h2.elim
  | cons ad ads ih =>
    intro m m' H H' h ds u w I μ HV h1 h2 h3 h4 h5 h6 hk
    cases ds with
    | nil => exact h2.elim
    | cons d ds =>
      obtain ⟨⟨cap, e1, e2, e3⟩, h2'⟩ := h2
      obtain ⟨sp, tz⟩ := RepL.argSpare (I := I) (w := w) (cargs := d.args.toList ++ cap.toList) e3
      have hone : ∀ b, argTok μ HV H (d.args.toList ++ cap.toList) ad.args b ≤ 1 := fun b => by
        have := h1.one b; have := tz b; unfold argTok; omega
      have hno : (movedTmps ([] : List Operand) ([] : List Bool)).Nodup := by simp [movedTmps]
      have hrest : ∀ {out : Out} {H1 : Heap} {J : Mem} {ν : List Nat} {HV' : List (List Value)} {e : Ending} {w' : World}, CPost I μ HV w H (d.args.toList ++ cap.toList) ad.args out H1 J ν HV' e w' →
          FInv J ν HV' lv w' vs tm lh H1 ∧ Eff I0 w0 A J w' ∧ (∀ b, 0 < tok ν HV' H1 lv lh vs tm b → A b ∨ w0.heap.size ≤ b) ∧ LeN μ0 ν ∧ DRel J ν ds ads := by
        intro out H1 J ν HV' e w' hp
        obtain ⟨f1, f2, f3, f4, f5⟩ := call_frame h1 hno (fun b => by rw [tz b]; exact Nat.zero_le _) hp
        refine ⟨f1, h4.trans f2 h5, fun b hb => ?_, h6.trans f3, h2'.mono f2.le f3⟩
        simp only [disT] at f5
        rcases f5 b (by omega) with q | q
        · exact h5 b q
        · exact .inr (Nat.le_trans h4.size q)
      have hu : u ≠ .run := by
        cases m with
        | none => exact h3.elim
        | returning => have : u = .returning := h3; rw [this]; simp
        | panicking v r => obtain ⟨x, o, rfl, _⟩ := h3; simp
      simp only [adefers] at h
      have hca : d.args ++ cap = (d.args.toList ++ cap.toList).toArray := by apply Array.ext'; simp
      split at h
      · rename_i v1 rm1 H1 hc
        obtain ⟨⟨fn', body, q1, q2, q3⟩, q4⟩ := hcall _ _ _ _ _ hc I μ HV w _ h4.le h1.h e2 sp hone
        have hcd : CallsD P ad.f (d.args ++ cap) u w fun e u' w' => ∃ J ν HV', CPost I μ HV w H (d.args.toList ++ cap.toList) ad.args (.ret v1) H1 J ν HV' e w' ∧ ModeRel J ν rm1 u' := by
          rw [hca]
          cases m with
          | none => exact h3.elim
          | returning => exact q4 u h3
          | panicking v r => exact q4 u h3
        refine ⟨hu, _, cap, _, _, e1, invoke_run e1 q1 q2 q3 w, hcd.mono ?_⟩
        rintro e u' w' ⟨J, ν, HV', hp, hm⟩
        obtain ⟨v', rfl, _⟩ := hp.outr
        obtain ⟨r1, r2, r3, r4, r5⟩ := hrest hp
        exact ih h r1 r5 (settle_rel hm) r2 r3 r4 hk
      · rename_i v1 rm1 H1 hc
        obtain ⟨⟨fn', body, q1, q2, q3⟩, q4⟩ := hcall _ _ _ _ _ hc I μ HV w _ h4.le h1.h e2 sp hone
        have hcd : CallsD P ad.f (d.args ++ cap) u w fun e u' w' => ∃ J ν HV', CPost I μ HV w H (d.args.toList ++ cap.toList) ad.args (.panic v1) H1 J ν HV' e w' ∧ ModeRel J ν rm1 u' := by
          rw [hca]
          cases m with
          | none => exact h3.elim
          | returning => exact q4 u h3
          | panicking v r => exact q4 u h3
        refine ⟨hu, _, cap, _, _, e1, invoke_run e1 q1 q2 q3 w, hcd.mono ?_⟩
        rintro e u' w' ⟨J, ν, HV', hp, hm⟩
        obtain ⟨chain, rfl, hch⟩ := hp.outr
        obtain ⟨r1, r2, r3, r4, r5⟩ := hrest hp
        exact ih h r1 r5 (raised_rel hm hch) r2 r3 r4 hk
      · cases h

/-- One result, as the model has it. -/
def resF (tmps : Array Value) (rv : ResultVar) : Sem Value :=
  match rv with
  | .tmp t => pure (tmps.getD t undef)
  | .cell a t => do loadVar t (← asAddr (tmps.getD a undef))

/-- One result. -/
theorem result_sound {s : St} {tmps : Array Value} {w : World} {HV : List (List Value)} {lv : List LV} {H : Heap} (h : FInv I μ HV lv w tmps.toList s.tmps s.lh H) {rv : ResultVar} {a : AV} (hr : aresult P s H rv = some a) :
    ∃ v, (resF tmps rv).run P w = .ok v w ∧ Rep I μ v a ∧ SpareOk I w v a ∧ ∀ b, tc b v a ≤ tcs b tmps.toList s.tmps := by
  have hget : ∀ t, tmps.getD t undef = cevals tmps.toList (.tmp t) := fun t => by simp [cevals, List.getD_eq_getElem?_getD, Array.getD_eq_getD_getElem?]
  cases rv with
  | tmp t =>
    simp only [aresult] at hr
    split at hr
    · cases hr
    · rename_i hlp
      simp only [Option.some.injEq] at hr; subst hr
      refine ⟨_, rfl, ?_, ?_, fun b => ?_⟩
      · rw [hget]; exact (aeval_rep h.tms (.tmp t)).rep (by simpa [aeval] using hlp)
      · rw [hget]; exact aeval_spare h.tms h.sp (.tmp t)
      · rw [hget]
        simp only [cevals, List.getD_eq_getElem?_getD]
        cases ht : s.tmps[t]? with
        | none =>
          have : tc b (tmps.toList[t]?.getD undef) .any = 0 := by unfold tc; split <;> simp_all
          simp only [Option.getD_none]; rw [this]; exact Nat.zero_le _
        | some a =>
          have htl : t < tmps.toList.length := by rw [h.tms.1]; exact (List.getElem?_eq_some_iff.1 ht).1
          have := zsum_get (tc b) (List.getElem?_eq_getElem htl) ht
          simpa [List.getElem?_eq_getElem htl] using this
  | cell x t =>
    simp only [aresult] at hr
    have hx := aeval_rep h.tms (.tmp x)
    simp only [aeval] at hx
    have key : ∀ {b o : Nat} {ws : List Value} {cs : List AV} {off : Nat}, cevals tmps.toList (.tmp x) = .pointer (some ⟨b, o + off, none⟩) → CellsAt w b o ws → OneCells ws → RepL I μ ws cs → readCells P t cs off = some a →
        ∃ v, (resF tmps (.cell x t)).run P w = .ok v w ∧ Rep I μ v a ∧ SpareOk I w v a ∧ ∀ b, tc b v a ≤ tcs b tmps.toList s.tmps := by
      intro b o ws cs off e1 e2 e3 e4 e5
      obtain ⟨v, r1, r2, r3⟩ := readCells_sound (P := P) e2 e3 e4 e5
      refine ⟨v, ?_, r2, r3.spare w v, fun b => by rw [r3.tc]; exact Nat.zero_le _⟩
      unfold resF
      simp only []
      rw [hget, e1]
      simp [asAddr, r1]
    split at hr
    · rename_i cs e
      rw [e] at hx
      generalize hu : cevals tmps.toList (.tmp x) = u at hx
      cases hx with
      | ref b o ws cs hr' h2 _ => exact key (off := 0) hu (hr'.cells h.h.imm) (hr'.one h.h.imm) h2 hr
    · rename_i id off e
      rw [e] at hx
      split at hr
      · rename_i cs hc
        obtain ⟨b, ws, q1, q2, ⟨ee, k1⟩, k2, k3, k4, k5⟩ := h.h.get hc
        generalize hu : cevals tmps.toList (.tmp x) = u at hx
        cases hx with
        | ptr _ _ b2 hb2 _ =>
          rw [q1] at hb2; cases hb2
          exact key (o := 0) (off := off) (by rw [hu]; simp) (CellsAt.block k1) k3 k2 hr
      · cases hr
    · rename_i l g off e
      rw [e] at hx
      split at hr
      · rename_i g' cs hc
        split at hr
        · rename_i hgg
          subst hgg
          obtain ⟨g1, cs1, b, ws, q1, q2, q3, b', q4, q5⟩ := hx
          rw [hc] at q1; cases q1
          obtain rfl := q5 rfl
          obtain ⟨⟨ee, k1⟩, k2, k3, k4, k5⟩ := h.lo l _ _ q2 hc
          exact key (o := 0) (off := off) (by rw [q4]; simp) (CellsAt.block k1) k3 k2 hr
        · cases hr
      · cases hr
    · cases hr

theorem results_list {s : St} {tmps : Array Value} {w : World} {HV : List (List Value)} {lv : List LV} {H : Heap} (h : FInv I μ HV lv w tmps.toList s.tmps s.lh H) : ∀ {rs : List ResultVar} {avs : List AV}, aresults P s H rs = some avs →
    ∃ vs, (rs.mapM (resF tmps)).run P w = .ok vs w ∧ RepL I μ vs avs ∧
      (∀ (i : Nat) v a, vs[i]? = some v → avs[i]? = some a → SpareOk I w v a ∧ ∀ b, tc b v a ≤ tcs b tmps.toList s.tmps)
  | [], avs, hr => by
    simp only [aresults, Option.some.injEq] at hr; subst hr
    exact ⟨[], by simp, .nil, fun i v a h => by simp at h⟩
  | r :: rs, avs, hr => by
    simp only [aresults] at hr
    split at hr
    · rename_i a l ha hl
      simp only [Option.some.injEq] at hr; subst hr
      obtain ⟨v, e1, e2, e3, e4⟩ := result_sound h ha
      obtain ⟨vs, f1, f2, f3⟩ := results_list h hl
      refine ⟨v :: vs, ?_, .cons e2 f2, fun i u c hu hc => ?_⟩
      · rw [List.mapM_cons]
        simp only [Sem.run_bind]
        rw [e1]
        simp only [Result.andThen_ok, Sem.run_bind]
        rw [f1]
        rfl
      · cases i with
        | zero => simp at hu hc; subst hu hc; exact ⟨e3, e4⟩
        | succ i => exact f3 i u c (by simpa using hu) (by simpa using hc)
    · cases hr

theorem results_sound {fn : Func} {s : St} {tmps : Array Value} {w : World} {HV : List (List Value)} {lv : List LV} {H : Heap} (h : FInv I μ HV lv w tmps.toList s.tmps s.lh H) {avs : List AV} (hr : aresults P s H fn.results.toList = some avs) :
    ∃ v, (results fn tmps).run P w = .ok v w ∧ Rep I μ v (resultOf avs) ∧ SpareOk I w v (resultOf avs) ∧ ∀ b, tc b v (resultOf avs) ≤ tcs b tmps.toList s.tmps := by
  obtain ⟨vs, e1, e2, e3⟩ := results_list h hr
  have hres : results fn tmps = (do let vs ← fn.results.mapM (resF tmps); pure (if h : vs.size = 1 then vs[0] else .tuple vs)) := rfl
  have hrun : (results fn tmps).run P w = .ok (if h : vs.toArray.size = 1 then vs.toArray[0] else .tuple vs.toArray) w := by
    rw [hres, Sem.run_bind, Array.mapM_eq_mapM_toList, Sem.run_map, e1]
    rfl
  have hlen := e2.length
  rcases vs with _ | ⟨v, _ | ⟨v', vs⟩⟩ <;> rcases avs with _ | ⟨a, _ | ⟨a', as⟩⟩ <;> simp at hlen
  · exact ⟨.tuple #[], by rw [hrun]; rfl, .tuple _ _ .nil .nil, fun _ _ _ _ _ _ _ h => (by cases h), fun b => Nat.zero_le _⟩
  · obtain ⟨k1, k2⟩ := e3 0 v a rfl rfl
    exact ⟨v, by rw [hrun]; rfl, e2, k1, k2⟩
  · exact ⟨.tuple (v :: v' :: vs).toArray, by rw [hrun]; simp, .tuple _ _ (by simpa using e2.dis) .nil, fun _ _ _ _ _ _ _ h => (by cases h), fun b => Nat.zero_le _⟩

/-- A frame at its beginning. -/
theorem start_good {I : Mem} {μ : List Nat} {HV : List (List Value)} {w : World} {H : Heap} {cargs : List Value} {args : List AV} (hh : HInv I μ HV w H) (hr : RepL I μ cargs args) (hs : AllSpare I w cargs args) (h1 : ∀ b, argTok μ HV H cargs args b ≤ 1)
    {rm : RM} {cs : List Frame} (hrm : RmOk I μ cs cs rm) (n : Nat) :
    Good ⟨I, μ, w, fun b => 0 < argTok μ HV H cargs args b, cs, !rm.isNone⟩ ⟨args ++ List.replicate (n - args.length) (.val undef), List.replicate n none, ⟨H, [], rm, H.length⟩⟩
      { tmps := cargs.toArray ++ Array.replicate (n - cargs.toArray.size) undef, defers := [] } cs w I μ HV (List.replicate n none) := by
  have hl := hr.length
  have e1 : (cargs.toArray ++ Array.replicate (n - cargs.toArray.size) undef).toList = cargs ++ List.replicate (n - args.length) undef := by simp [hl]
  have hrep : RepL I μ (cargs ++ List.replicate (n - args.length) undef) (args ++ List.replicate (n - args.length) (.val undef)) := hr.append (by
    have := RepL.vals (I := I) (μ := μ) (List.replicate (n - args.length) undef)
    simpa using this)
  have hz : ∀ b k, tcs b (List.replicate k undef) (List.replicate k (.val undef)) = 0 := by
    intro b k; induction k with
    | zero => rfl
    | succ k ih =>
      simp only [tcs] at ih
      simp only [List.replicate_succ, tcs, zsum]
      rw [ih]; rfl
  have hz2 : ∀ b (k : Nat), zsum (lc b) (List.replicate k (none : LV)) (List.replicate k (none : Option LCell)) = 0 := by
    intro b k; induction k with
    | zero => rfl
    | succ k ih => simp only [List.replicate_succ, zsum]; rw [ih]; rfl
  have htok : ∀ b, tok μ HV H (List.replicate n none) (List.replicate n none) (cargs ++ List.replicate (n - args.length) undef) (args ++ List.replicate (n - args.length) (.val undef)) b = argTok μ HV H cargs args b := fun b => by
    have e2 := zsum_append (tc b) (l := cargs) (l' := List.replicate (n - args.length) undef) (m := args) (m' := List.replicate (n - args.length) (.val undef)) hl
    have := hz b (n - args.length)
    have := hz2 b n
    unfold tok argTok
    simp only [tcs] at *
    omega
  have hsp : AllSpare I w (cargs ++ List.replicate (n - args.length) undef) (args ++ List.replicate (n - args.length) (.val undef)) := AllSpare.append hl hs fun i v a hv ha => by
    simp only [List.getElem?_replicate] at ha
    split at ha
    · cases ha; intro _ _ _ _ _ _ _ h; cases h
    · cases ha
  refine ⟨⟨hh, ?_, ?_, by simp, ?_, ?_⟩, trivial, hrm, by simp, .refl _ _ _, ?_, .refl μ, hh.l1.symm⟩
  · simp only [e1]; exact ⟨hrep.length, fun i v a hv ha => .of (hrep.get hv ha)⟩
  · simp only [e1]; exact hsp
  · intro t d c hd hc
    simp only [List.getElem?_replicate] at hd hc
    split at hd
    · rename_i ht; rw [if_pos ht] at hc; cases hd; cases hc; trivial
    · cases hd
  · intro b
    simp only [e1]
    have := htok b; have := h1 b; unfold tok at *; omega
  · intro b hb
    simp only [e1] at hb
    rw [htok] at hb
    exact .inl hb
end
end Go.Eng
