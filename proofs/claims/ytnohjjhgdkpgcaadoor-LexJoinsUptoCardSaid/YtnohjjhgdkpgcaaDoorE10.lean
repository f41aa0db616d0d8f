/-
  THE ENGINE, part 10: what a call is to do; operations that call, defer, panic and recover.
-/
import Derived.Test.YtnohjjhgdkpgcaaDoorE9
set_option linter.unusedVariables false
set_option linter.unusedSimpArgs false
namespace Go.Eng

/-- A panic's chain: its head is not recovered; nothing in it is a Goexit. -/
def ChainRel (I : Mem) (μ : List Nat) (chain : List PanicEntry) (v : AV) : Prop :=
  ∃ u older, chain = { v := u, recovered := false, goexit := false } :: older ∧ (∀ e ∈ older, e.goexit = false) ∧ Rep I μ u v

/-- The mode of the frame that called this one as a deferred call. -/
def ModeRel (I : Mem) (μ : List Nat) : RM → FrameMode → Prop
  | .none, _ => False
  | .returning, u => u = .returning
  | .panicking v r, u => ∃ x older, u = .panicking ({ v := x, recovered := r, goexit := false } :: older) ∧ (∀ e ∈ older, e.goexit = false) ∧ Rep I μ x v

def OutRel (J : Mem) (ν : List Nat) (w' : World) : Out → Ending → Prop
  | .ret v, e => ∃ v', e = .returned v' ∧ Rep J ν v' v ∧ SpareOk J w' v' v
  | .panic v, e => ∃ chain, e = .panicked chain ∧ ChainRel J ν chain v

/-- The blocks that a call's result owns. -/
def outTok (b : Nat) : Out → Ending → Nat
  | .ret v, .returned v' => tc b v' v
  | _, _ => 0

def argTok (μ : List Nat) (HV : List (List Value)) (H : Heap) (cargs : List Value) (args : List AV) (b : Nat) : Nat := μ.count b + tcss b HV H + tcs b cargs args

structure CPost (I : Mem) (μ : List Nat) (HV : List (List Value)) (w : World) (H : Heap) (cargs : List Value) (args : List AV) (out : Out) (H' : Heap) (J : Mem) (ν : List Nat) (HV' : List (List Value)) (e : Ending) (w' : World) : Prop where
  h : HInv J ν HV' w' H'
  eff : Eff I w (fun b => 0 < argTok μ HV H cargs args b) J w'
  mu : LeN μ ν
  outr : OutRel J ν w' out e
  one : ∀ b, ν.count b + tcss b HV' H' + outTok b out e ≤ 1
  tok : ∀ b, 0 < ν.count b + tcss b HV' H' + outTok b out e → 0 < argTok μ HV H cargs args b ∨ w.heap.size ≤ b

/-- What is asked of the interpreter's calls. -/
def CallSound (P : Program) (I0 : Mem) (call : FuncId → List AV → RM → Heap → Option CRes) : Prop :=
  ∀ f args rm H res, call f args rm H = some res → ∀ I μ HV w cargs, LeM I0 I → HInv I μ HV w H → RepL I μ cargs args → AllSpare I w cargs args → (∀ b, argTok μ HV H cargs args b ≤ 1) →
    (∃ fn c, P.funcs[f]? = some fn ∧ fn.body = some c ∧ (fn.name == "runtime.NumGoroutine") = false) ∧
    match rm with
    | .none => Calls P f cargs.toArray w fun e w' => ∃ J ν HV', CPost I μ HV w H cargs args res.out res.H J ν HV' e w'
    | rm => ∀ u, ModeRel I μ rm u → CallsD P f cargs.toArray u w fun e u' w' => ∃ J ν HV', CPost I μ HV w H cargs args res.out res.H J ν HV' e w' ∧ ModeRel J ν res.rm u'

theorem CallSound.mono {P : Program} {I0 I1 : Mem} {call : FuncId → List AV → RM → Heap → Option CRes} (h : CallSound P I0 call) (hle : LeM I0 I1) : CallSound P I1 call :=
  fun f args rm H res hc I μ HV w cargs hI => h f args rm H res hc I μ HV w cargs (hle.trans hI)

section
variable {P : Program} {cfg : FuncId → FCfg} {call : FuncId → List AV → RM → Heap → Option CRes} {I J : Mem} {μ ν : List Nat} {HV : List (List Value)} {lh : List (Option LCell)} {lv : List LV} {w w' : World}
  {vs : List Value} {tm : List AV} {H : Heap} {A : Nat → Prop}

theorem eval_cevals (a : Act) (x : Operand) : a.eval x = cevals a.tmps.toList x := by
  cases x with
  | tmp t => simp [Act.eval, cevals, List.getD_eq_getElem?_getD, Array.getD_eq_getD_getElem?]
  | _ => rfl

theorem eval_eq (a : Act) : a.eval = cevals a.tmps.toList := funext (eval_cevals a)

section
variable {b : Frame} {a : Act} {k : List Item} {cs : List Frame} {ops : Array Oper} {i : Nat} {rest : List Nat} {o : Oper}

theorem fin_at (ho : ops[i]? = some o) (v : Value) : (b.at a (.inRegion ops (i :: rest) :: k)).finish v = b.at (a.put o.dst v) (.inRegion ops rest :: k) := by
  rw [Frame.finish_at, ho]; rfl

theorem step_next (ho : ops[i]? = some o) (hw : Region.wanted o (yielded ops a.tmps) = true) {n : Next} {v : Value} (hr : (execOp a.eval o).run P w = .ok n w') (hn : NextVal n v) :
    step P (lone (b.at a (.inRegion ops (i :: rest) :: k)) cs w) = .next (lone (b.at (a.put o.dst v) (.inRegion ops rest :: k)) cs w') := by
  have hg := stepG_op (P := P) (b := b) (k := k) (cs := cs) (w := w) (rest := rest) ho hw
  refine step_lone_go ?_
  rw [hg, ← fin_at ho]
  rcases hn with rfl | ⟨rfl, rfl⟩ <;> simp [stepG.apply, hr]

theorem step_deferOp (ho : ops[i]? = some o) (hw : Region.wanted o (yielded ops a.tmps) = true) {d : Deferred} (hr : (execOp a.eval o).run P w = .ok (.defer d) w') :
    step P (lone (b.at a (.inRegion ops (i :: rest) :: k)) cs w) = .next (lone (b.at ({ a with defers := d :: a.defers }.put o.dst undef) (.inRegion ops rest :: k)) cs w') := by
  have hg := stepG_op (P := P) (b := b) (k := k) (cs := cs) (w := w) (rest := rest) ho hw
  refine step_lone_go ?_
  have : ({ b.at a (.inRegion ops (i :: rest) :: k) with defers := d :: a.defers } : Frame).finish undef = b.at ({ a with defers := d :: a.defers }.put o.dst undef) (.inRegion ops rest :: k) := by
    have := Frame.finish_at b { a with defers := d :: a.defers } ops i rest k undef
    rw [ho] at this; exact this
  rw [hg]; simp only [stepG.apply, Sem.runT_eq, hr, GStep.bare_after]
  exact congrArg (fun fr => GStep.go { frame := fr, callers := cs, status := .running, dying := none } w') this

theorem step_panicOp (ho : ops[i]? = some o) (hw : Region.wanted o (yielded ops a.tmps) = true) {v : Value} (hr : (execOp a.eval o).run P w = .halt (.panic v) w') :
    step P (lone (b.at a (.inRegion ops (i :: rest) :: k)) cs w) = .next (lone { b.at a (.inRegion ops (i :: rest) :: k) with mode := .panicking [{ v, recovered := false }] } cs w') := by
  have hg := stepG_op (P := P) (b := b) (k := k) (cs := cs) (w := w) (rest := rest) ho hw
  refine step_lone_go ?_
  rw [hg, ← Frame.raise_at]; simp [stepG.apply, hr]

theorem step_enter (ho : ops[i]? = some o) (hw : Region.wanted o (yielded ops a.tmps) = true) {f : FuncId} {args : Array Value} (hr : (execOp a.eval o).run P w = .ok (.enter f args) w') :
    step P (lone (b.at a (.inRegion ops (i :: rest) :: k)) cs w) = .next (lone (Frame.enter P f args .normal) (b.at a (.inRegion ops (i :: rest) :: k) :: cs) w') := by
  have hg := stepG_op (P := P) (b := b) (k := k) (cs := cs) (w := w) (rest := rest) ho hw
  exact step_lone_go (by rw [hg]; simp [stepG.apply, hr, Frame.at])

theorem step_recoverOp (ho : ops[i]? = some o) (hw : Region.wanted o (yielded ops a.tmps) = true) (hb : b.kind = .deferred) (hr : (execOp a.eval o).run P w = .ok .recover w') :
    step P (lone (b.at a (.inRegion ops (i :: rest) :: k)) cs w) = .next (match recoverD cs with
      | some (v, cs') => lone (b.at (a.put o.dst v) (.inRegion ops rest :: k)) cs' w'
      | none => lone (b.at (a.put o.dst .nilIface) (.inRegion ops rest :: k)) cs w') := by
  have hg := stepG_op (P := P) (b := b) (k := k) (cs := cs) (w := w) (rest := rest) ho hw
  have hk : (b.at a (.inRegion ops (i :: rest) :: k)).kind = .deferred := hb
  have htr := tryRecover_deferred hk cs
  split
  · rename_i v cs' hrec
    refine step_lone_go ?_
    rw [hg, ← fin_at ho]
    simp only [Frame.at] at htr ⊢
    simp [stepG.apply, hr, htr, hrec]
  · rename_i hrec
    refine step_lone_go ?_
    rw [hg, ← fin_at ho]
    simp only [Frame.at] at htr ⊢
    simp [stepG.apply, hr, htr, hrec]

/-- A call, entered and left. -/
theorem call_arrives (ho : ops[i]? = some o) (hw : Region.wanted o (yielded ops a.tmps) = true) {f : FuncId} {args : Array Value} (hr : (execOp a.eval o).run P w = .ok (.enter f args) w) {R : Ending → World → Prop}
    (hc : Calls P f args w R) (hno : ∀ w', ¬ R .outgrown w') : ∃ e w', R e w' ∧ match e with
      | .returned v => Steps P (lone (b.at a (.inRegion ops (i :: rest) :: k)) cs w) (lone (b.at (a.put o.dst v) (.inRegion ops rest :: k)) cs w')
      | .panicked chain => Arrives P (lone (b.at a (.inRegion ops (i :: rest) :: k)) cs w) b k cs (.panic chain) a w'
      | .outgrown => False := by
  obtain ⟨e, w'', fr, hR, hsteps, _, hleave⟩ := hc (b.at a (.inRegion ops (i :: rest) :: k) :: cs)
  have henter := step_enter (P := P) (b := b) (k := k) (cs := cs) (rest := rest) ho hw hr
  cases e with
  | returned v =>
    refine ⟨_, w'', hR, ?_⟩
    refine .head henter (Steps.trans hsteps (.one ?_))
    rw [← fin_at ho]; exact step_leave_returned hleave
  | panicked chain =>
    refine ⟨_, w'', hR, .inRegion ops (i :: rest) :: k, .head henter (Steps.trans hsteps (.one ?_))⟩
    rw [← Frame.raise_at]; exact step_leave_panicked hleave
  | outgrown => exact absurd hR (hno _)
end

/-- A static or a dynamic call's operation. -/
theorem call_run {o : Oper} {c : Call} {x : Operand} (hop : o.op = .call c) (hc : c.callee = .value x) {ρ : Operand → Value} {g : FuncId} {first captured : Array Value} (hx : ρ x = .func (.func g) first captured)
    {fn : Func} {body : Code} (hf : P.funcs[g]? = some fn) (hb : fn.body = some body) (hng : (fn.name == "runtime.NumGoroutine") = false) (w : World) :
    (execOp ρ o).run P w = .ok (.enter g (first ++ c.args.map ρ ++ captured)) w := by
  have hng' : ¬ fn.name = "runtime.NumGoroutine" := by simpa using hng
  simp [execOp, hop, resolve, hc, hx, Deferred.ofValue, invoke, callFunc, hf, hb, hng']

theorem RepL.argSpare {cargs : List Value} {args : List AV} (h : ∀ a ∈ args, NoOwn a) : AllSpare I w cargs args ∧ ∀ b, tcs b cargs args = 0 := by
  refine ⟨fun i v a hv ha => (h a (List.mem_of_getElem? ha)).spare w v, fun b => ?_⟩
  rcases Nat.eq_zero_or_pos (tcs b cargs args) with h0 | h0
  · exact h0
  · obtain ⟨i, v, a, hv, ha, hp⟩ := tcs_pos h0
    rw [(h a (List.mem_of_getElem? ha)).tc] at hp; omega

theorem noOwn_map_dis (l : List AV) : ∀ a ∈ l.map AV.dis, NoOwn a := by
  intro a ha; simp at ha; obtain ⟨x, _, rfl⟩ := ha; exact .dis x

/-- The frame behind a call that returned. -/
theorem call_frame (h : FInv I μ HV lv w vs tm lh H) {xs : List Operand} {ms : List Bool} (hn : (movedTmps xs ms).Nodup) {cargs : List Value} {args : List AV} {out : Out} {H' : Heap} {J : Mem} {ν : List Nat} {HV' : List (List Value)} {e : Ending} {w' : World}
    (hargs : ∀ b, tcs b cargs args ≤ tcs b (xs.map (cevals vs)) (vals tm xs ms)) (hp : CPost I μ HV w H cargs args out H' J ν HV' e w') :
    FInv J ν HV' lv w' vs (disT tm xs ms) lh H' ∧ Eff I w (fun b => 0 < tok μ HV H lv lh vs tm b) J w' ∧ LeN μ ν ∧
      (∀ b, tok ν HV' H' lv lh vs (disT tm xs ms) b + outTok b out e ≤ 1) ∧ (∀ b, 0 < tok ν HV' H' lv lh vs (disT tm xs ms) b + outTok b out e → 0 < tok μ HV H lv lh vs tm b ∨ w.heap.size ≤ b) := by
  have hd := h.dis xs ms hn
  have htd := fun b => tok_dis_le h xs ms hn b
  have htm : ∀ b, tok μ HV H lv lh vs tm b ≤ 1 := fun b => h.one b
  have hz : ∀ b, 0 < argTok μ HV H cargs args b → zsum (lc b) lv lh = 0 ∧ tcs b vs (disT tm xs ms) = 0 := fun b hb => by
    have h1 := htd b
    have h2 := htm b
    have h3 := hargs b
    unfold tok at h1 h2; unfold argTok at hb; omega
  have hone : ∀ b, tok ν HV' H' lv lh vs (disT tm xs ms) b + outTok b out e ≤ 1 := fun b => by
    have h1 := hp.one b
    by_cases h0 : ν.count b + tcss b HV' H' + outTok b out e = 0
    · have h2 := htd b; have h3 := htm b; unfold tok at *; omega
    · have h2 : zsum (lc b) lv lh = 0 ∧ tcs b vs (disT tm xs ms) = 0 := by
        rcases hp.tok b (by omega) with h3 | h3
        · exact hz b h3
        · have := tok_lt hd (b := b) (by omega); unfold tok at this; omega
      unfold tok; omega
  refine ⟨⟨hp.h, ⟨hd.tms.1, fun i v a hv ha => (hd.tms.2 i v a hv ha).mono hp.eff.le hp.mu⟩, hd.sp.eff hp.eff fun b hb => (hz b hb).2, hd.ll, loc_eff hd.lo hp.eff hp.mu fun b hb => (hz b hb).1, fun b => ?_⟩,
    hp.eff.mono fun b hb => ?_, hp.mu, hone, fun b hb => ?_⟩
  · have := hone b; unfold tok at this; omega
  · have h1 := htd b; have h3 := hargs b; unfold argTok at hb; unfold tok at *; omega
  · by_cases h0 : ν.count b + tcss b HV' H' + outTok b out e = 0
    · left; have h1 := htd b; unfold tok at *; omega
    · rcases hp.tok b (by omega) with h3 | h3
      · left; have h1 := htd b; have h4 := hargs b; unfold argTok at h3; unfold tok at *; omega
      · exact .inr h3
end
end Go.Eng
