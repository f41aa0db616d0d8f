/-
  THE ENGINE, part 11: one operation in a region; a region in an order.
-/
import Derived.Test.YtnohjjhgdkpgcaaDoorE10
set_option linter.unusedVariables false
set_option linter.unusedSimpArgs false
namespace Go.Eng

def DRel1 (I : Mem) (μ : List Nat) (d : Deferred) (ad : ADef) : Prop :=
  ∃ cap, d.target = .fn (.func ad.f) cap ∧ RepL I μ (d.args.toList ++ cap.toList) ad.args ∧ ∀ a ∈ ad.args, NoOwn a

def DRel (I : Mem) (μ : List Nat) : List Deferred → List ADef → Prop
  | [], [] => True
  | d :: ds, a :: as => DRel1 I μ d a ∧ DRel I μ ds as
  | _, _ => False

def RM.isNone : RM → Bool
  | .none => true
  | _ => false

def RmOk (I : Mem) (μ : List Nat) (cs0 cs : List Frame) : RM → Prop
  | .none => cs = cs0
  | rm => ∃ c rest u, cs0 = c :: rest ∧ cs = { c with mode := u } :: rest ∧ ModeRel I μ rm u

/-- What a call is measured against: the memory and the world where it began, what it may write, its callers. -/
structure Base where
  I : Mem
  μ : List Nat
  w : World
  A : Nat → Prop
  cs : List Frame
  dk : Bool

structure Good (B : Base) (s : St) (a : Act) (cs : List Frame) (w : World) (I : Mem) (μ : List Nat) (HV : List (List Value)) (lv : List LV) : Prop where
  inv : FInv I μ HV lv w a.tmps.toList s.tmps s.lh s.g.H
  df : DRel I μ a.defers s.g.defers
  rm : RmOk I μ B.cs cs s.g.rm
  dk : s.g.rm.isNone = !B.dk
  eff : Eff B.I B.w B.A I w
  tk : ∀ b, 0 < tok μ HV s.g.H lv s.lh a.tmps.toList s.tmps b → B.A b ∨ B.w.heap.size ≤ b
  mu : LeN B.μ μ
  bs : s.g.base = B.μ.length

section
variable {P : Program} {cfg : FuncId → FCfg} {call : FuncId → List AV → RM → Heap → Option CRes} {B : Base} {I J : Mem} {μ ν : List Nat}

theorem DRel1.mono (hI : LeM I J) (hμ : LeN μ ν) {d : Deferred} {a : ADef} (h : DRel1 I μ d a) : DRel1 J ν d a := by
  obtain ⟨cap, h1, h2, h3⟩ := h
  exact ⟨cap, h1, h2.mono hI hμ, h3⟩

theorem DRel.mono (hI : LeM I J) (hμ : LeN μ ν) : ∀ {ds : List Deferred} {as : List ADef}, DRel I μ ds as → DRel J ν ds as
  | [], [], h => h
  | d :: ds, a :: as, h => ⟨h.1.mono hI hμ, DRel.mono hI hμ h.2⟩
  | [], _ :: _, h => h.elim
  | _ :: _, [], h => h.elim

theorem ModeRel.mono (hI : LeM I J) (hμ : LeN μ ν) {rm : RM} {u : FrameMode} (h : ModeRel I μ rm u) : ModeRel J ν rm u := by
  cases rm with
  | none => exact h
  | returning => exact h
  | panicking v r => obtain ⟨x, o, h1, h2, h3⟩ := h; exact ⟨x, o, h1, h2, h3.mono hI hμ⟩

theorem RmOk.mono (hI : LeM I J) (hμ : LeN μ ν) {cs0 cs : List Frame} {rm : RM} (h : RmOk I μ cs0 cs rm) : RmOk J ν cs0 cs rm := by
  cases rm with
  | none => exact h
  | returning => obtain ⟨c, r, u, h1, h2, h3⟩ := h; exact ⟨c, r, u, h1, h2, h3.mono hI hμ⟩
  | panicking v r => obtain ⟨c, r, u, h1, h2, h3⟩ := h; exact ⟨c, r, u, h1, h2, h3.mono hI hμ⟩

theorem arecover_base {m g' : G} {v : AV} (h : arecover m = some (.val v g')) : g'.base = m.base := by
  unfold arecover at h
  split at h
  · cases h
  all_goals (simp only [Option.some.injEq, GR.val.injEq] at h; rw [← h.2])

theorem aglob_base {f : FuncId} {o : Oper} {vs : List AV} {m g' : G} {v : AV} (h : aglob P cfg call f o vs m = some (.val v g')) : g'.base = m.base := by
  unfold aglob at h
  split at h
  · split at h
    · simp only [Option.some.injEq, GR.val.injEq] at h; rw [← h.2]
    · cases h
  · split at h
    · simp only [Option.some.injEq, GR.val.injEq] at h; rw [← h.2]
    · cases h
  · split at h
    · split at h
      · split at h
        · simp only [Option.some.injEq, GR.val.injEq] at h; rw [← h.2]
        · cases h
      · simp only [Option.map_eq_some_iff, GR.val.injEq] at h
        obtain ⟨_, _, _, h⟩ := h
        rw [← h]
    · cases h
  · split at h
    · split at h
      · simp only [Option.some.injEq, GR.val.injEq] at h; rw [← h.2]
      · cases h
    · cases h
  · split at h
    · split at h
      · exact arecover_base h
      · cases h
    · split at h
      · unfold acallv at h
        split at h
        · cases h
        · split at h
          · simp only [Option.some.injEq, GR.val.injEq] at h; rw [← h.2]
          · simp at h
          · cases h
      · cases h
    · cases h
  · split at h
    · split at h
      · split at h
        · cases h
        · simp only [Option.some.injEq, GR.val.injEq] at h; rw [← h.2]
      · cases h
    · cases h
  · simp at h
  · cases h

/-- A step inside the frame keeps all that is asked. -/
theorem Good.step {s : St} {a : Act} {cs : List Frame} {w : World} {HV : List (List Value)} {lv : List LV} (h : Good B s a cs w I μ HV lv) {HV' : List (List Value)} {lv' : List LV} {w' : World} {a' : Act} {s' : St}
    (hs : Stp I μ HV lv w a.tmps.toList s.tmps s.lh s.g.H J ν HV' lv' w' a'.tmps.toList s'.tmps s'.lh s'.g.H) (hd : a'.defers = a.defers) (hd' : s'.g.defers = s.g.defers) (hr : s'.g.rm = s.g.rm) (hbs : s'.g.base = s.g.base := by rfl) :
    Good B s' a' cs w' J ν HV' lv' := by
  refine ⟨hs.inv, ?_, ?_, by rw [hr]; exact h.dk, h.eff.trans hs.eff h.tk, fun b hb => ?_, h.mu.trans hs.mu, by rw [hbs]; exact h.bs⟩
  · rw [hd, hd']; exact h.df.mono hs.eff.le hs.mu
  · rw [hr]; exact h.rm.mono hs.eff.le hs.mu
  · rcases hs.tok b hb with h1 | h1
    · exact h.tk b h1
    · exact .inr (Nat.le_trans h.eff.size h1)

theorem put_tmps (a : Act) (d : Option Tmp) (v : Value) : (a.put d v).tmps.toList = putV a.tmps.toList d v := by
  cases d <;> simp [Act.put, putV]

theorem put_defers (a : Act) (d : Option Tmp) (v : Value) : (a.put d v).defers = a.defers := by
  cases d <;> rfl

theorem wanted_sound {s : St} {a : Act} {cs : List Frame} {w : World} {HV : List (List Value)} {lv : List LV} (h : Good B s a cs w I μ HV lv) {ops : Array Oper} {o : Oper} {r : Bool} (hw : wantedA ops o s.tmps = some r) :
    Region.wanted o (yielded ops a.tmps) = r := by
  unfold wantedA at hw
  unfold Region.wanted
  split at hw
  · rename_i hg; rw [hg]; simp at hw; simpa using hw
  · rename_i j want hg
    rw [hg]
    simp only
    split at hw
    · rename_i hd
      simp at hw; subst hw
      simp [yielded, hd]
    · rename_i t hd
      have hlen := h.inv.tms.1
      cases ht : s.tmps[t]? with
      | none =>
        simp [ht] at hw; subst hw
        have : a.tmps[t]? = none := by
          rw [← Array.getElem?_toList]
          exact List.getElem?_eq_none (by rw [hlen]; exact List.getElem?_eq_none_iff.1 ht)
        simp [yielded, hd, this]
      | some x =>
        have htl : t < a.tmps.toList.length := by rw [hlen]; exact (List.getElem?_eq_some_iff.1 ht).1
        have hv := h.inv.tms.2 t _ x (List.getElem?_eq_getElem htl) ht
        have he : a.tmps[t]? = some (a.tmps.toList[t]'htl) := by rw [← Array.getElem?_toList]; exact List.getElem?_eq_getElem htl
        simp only [ht] at hw
        split at hw
        · rename_i e; cases e
        · rename_i b' e
          cases e
          simp only [Option.some.injEq] at hw; subst hw
          generalize a.tmps.toList[t]'htl = u at hv he
          cases hv
          simp [yielded, hd, he]
        · rename_i v hnb e
          cases e
          simp only [Option.some.injEq] at hw; subst hw
          generalize a.tmps.toList[t]'htl = u at hv he
          cases hv
          have : yielded ops a.tmps j = none := by
            simp only [yielded, hd, Option.bind_some, he]
            split
            · rename_i b' e; cases e; exact absurd rfl (hnb b')
            · rfl
          simp [this]
        · cases hw

theorem recover_rel {cs0 cs : List Frame} {rm : RM} (h : RmOk I μ cs0 cs rm) {g g' : G} {v : AV} (hg : g.rm = rm) (hr : arecover g = some (.val v g')) :
    ∃ v' cs', (match recoverD cs with | some (x, c) => (x, c) | none => (.nilIface, cs)) = (v', cs') ∧ Rep I μ v' v ∧ RmOk I μ cs0 cs' g'.rm ∧ g'.H = g.H ∧ g'.defers = g.defers ∧ g'.rm.isNone = rm.isNone ∧ NoOwn v := by
  unfold arecover at hr
  rw [hg] at hr
  cases rm with
  | none => simp at hr
  | returning =>
    simp only [Option.some.injEq, GR.val.injEq] at hr
    obtain ⟨rfl, rfl⟩ := hr
    obtain ⟨c, rest, u, h1, h2, h3⟩ := h
    have hu : u = .returning := h3
    subst hu
    refine ⟨.nilIface, cs, by rw [h2]; rfl, .val _ .nil, ?_, rfl, rfl, by rw [hg], fun _ _ h => by cases h⟩
    rw [hg]; exact ⟨c, rest, .returning, h1, h2, rfl⟩
  | panicking x r =>
    obtain ⟨c, rest, u, h1, h2, y, older, h3, h4, h5⟩ := h
    subst h3
    cases r with
    | false =>
      simp only [Option.some.injEq, GR.val.injEq] at hr
      obtain ⟨rfl, rfl⟩ := hr
      refine ⟨y, _, by rw [h2]; rfl, h5.dis, ⟨c, rest, _, h1, rfl, y, older, rfl, h4, h5⟩, rfl, rfl, rfl, .dis _⟩
    | true =>
      simp only [Option.some.injEq, GR.val.injEq] at hr
      obtain ⟨rfl, rfl⟩ := hr
      refine ⟨.nilIface, cs, by rw [h2]; rfl, .val _ .nil, ?_, rfl, rfl, by rw [hg], fun _ _ h => by cases h⟩
      rw [hg]; exact ⟨c, rest, _, h1, h2, y, older, rfl, h4, h5⟩

/-- Where an operation that goes on leads. -/
def Goes (P : Program) (B : Base) (s' : St) (m : Machine) (b : Frame) (ops : Array Oper) (rest : List Nat) (k : List Item) : Prop :=
  ∃ a' cs' w' I' μ' HV' lv', Good B s' a' cs' w' I' μ' HV' lv' ∧ Steps P m (lone (b.at a' (.inRegion ops rest :: k)) cs' w')

def Panics (P : Program) (B : Base) (v : AV) (s' : St) (m : Machine) (b : Frame) (k : List Item) : Prop :=
  ∃ a' cs' w' I' μ' HV' lv' chain, Good B s' a' cs' w' I' μ' HV' lv' ∧ ChainRel I' μ' chain v ∧ Arrives P m b k cs' (.panic chain) a' w'

def SRel (P : Program) (B : Base) (r : SR) (m : Machine) (b : Frame) (ops : Array Oper) (rest : List Nat) (k : List Item) : Prop :=
  match r with
  | .next s' => Goes P B s' m b ops rest k
  | .panic v s' => Panics P B v s' m b k

theorem repL_of_vals {xs : List Operand} {vs tm : List AV} {cv : List Value} {lh : List (Option LCell)} {lv : List LV} (h : TRepL I μ lh lv cv vs) (ha : vs.any AV.isLp = false) : RepL I μ cv vs := h.repL ha

/-- What a call's operands give its callee. -/
theorem call_args {x : Value} {cargs : List Value} {lh : List (Option LCell)} {lv : List LV} {w : World} {g : FuncId} {first captured args : List AV} (hv : TRepL I μ lh lv (x :: cargs) (.func (.func g) first captured :: args))
    (hs : AllSpare I w (x :: cargs) (.func (.func g) first captured :: args)) (hlp : (first.map AV.dis ++ args ++ captured.map AV.dis).any AV.isLp = false) :
    ∃ f c : Array Value, x = .func (.func g) f c ∧ RepL I μ (f.toList ++ cargs ++ c.toList) (first.map AV.dis ++ args ++ captured.map AV.dis) ∧ AllSpare I w (f.toList ++ cargs ++ c.toList) (first.map AV.dis ++ args ++ captured.map AV.dis) ∧
      ∀ b, tcs b (f.toList ++ cargs ++ c.toList) (first.map AV.dis ++ args ++ captured.map AV.dis) = tcs b (x :: cargs) (.func (.func g) first captured :: args) := by
  have h1 := hv.uncons.1
  have h2 := hv.uncons.2
  cases h1 with
  | func fn f c af ac r1 r2 _ =>
    have hargs : RepL I μ cargs args := h2.repL (by
      rw [List.any_append, List.any_append] at hlp
      simp only [Bool.or_eq_false_iff] at hlp
      exact hlp.1.2)
    obtain ⟨s1, s2⟩ := RepL.argSpare (I := I) (w := w) (cargs := f.toList) (noOwn_map_dis first)
    obtain ⟨s3, s4⟩ := RepL.argSpare (I := I) (w := w) (cargs := c.toList) (noOwn_map_dis captured)
    have hs2 : AllSpare I w cargs args := fun i v a hv ha => hs (i + 1) v a (by simpa using hv) (by simpa using ha)
    refine ⟨f, c, rfl, (r1.dis.append hargs).append r2.dis, AllSpare.append (by have := r1.dis.length; have := hargs.length; simp at *; omega) (AllSpare.append r1.dis.length s1 hs2) s3, fun b => ?_⟩
    have e1 := zsum_append (tc b) (l := f.toList ++ cargs) (l' := c.toList) (m := first.map AV.dis ++ args) (m' := captured.map AV.dis) (by have := r1.dis.length; have := hargs.length; simp at *; omega)
    have e2 := zsum_append (tc b) (l := f.toList) (l' := cargs) (m := first.map AV.dis) (m' := args) r1.dis.length
    have e3 := s2 b
    have e4 := s4 b
    simp only [tcs] at *
    rw [e1, e2]
    simp only [zsum, tc]
    omega

theorem op_sound (hcall : CallSound P B.I call) {s : St} {a : Act} {cs : List Frame} {w : World} {HV : List (List Value)} {lv : List LV} (h : Good B s a cs w I μ HV lv) {f : FuncId} {o : Oper} {r : SR} (hr : aop P cfg call f o s = some r)
    {b : Frame} {ops : Array Oper} {i : Nat} {rest : List Nat} {k : List Item} (ho : ops[i]? = some o) (hw : Region.wanted o (yielded ops a.tmps) = true) (hb : B.dk = true → b.kind = .deferred) :
    SRel P B r (lone (b.at a (.inRegion ops (i :: rest) :: k)) cs w) b ops rest k := by
  unfold aop at hr
  simp only at hr
  split at hr
  · rename_i hn
    have hev := eval_eq a
    split at hr
    · -- pure
      split at hr
      · rename_i v hv
        simp only [Option.some.injEq] at hr; subst hr
        obtain ⟨v', w', J, e1, e2⟩ := pure_step (P := P) h.inv hn hv
        rw [← hev] at e1
        refine ⟨a.put o.dst v', cs, w', J, μ, HV, lv, h.step (a' := a.put o.dst v') ?_ (put_defers ..) rfl rfl, .one (step_next ho hw e1 (.inl rfl))⟩
        simp only [put_tmps]; exact e2
      · cases hr
    · -- own variables
      rename_i l wr hcl
      split at hr
      · rename_i c hc
        split at hr
        · rename_i v c' hv
          simp only [Option.some.injEq] at hr; subst hr
          obtain ⟨n, v', w', lv', e1, e2, e3⟩ := loc_step (P := P) h.inv hn hcl hc hv
          rw [← hev] at e1
          refine ⟨a.put o.dst v', cs, w', I, μ, HV, lv', h.step (a' := a.put o.dst v') ?_ (put_defers ..) rfl rfl, .one (step_next ho hw e1 e2)⟩
          simp only [put_tmps]; exact e3
        · cases hr
      · cases hr
    · -- what is shared
      rename_i wr hcl
      have hmem : ∀ v g', ((∃ e, o.op = .alloc e) ∨ (∃ e x, o.op = .box e x) ∨ (∃ t a, o.op = .load t a) ∨ (∃ t a x, o.op = .store t a x)) →
          aglob P cfg call f o (vals s.tmps o.op.operands.toList (moves cfg f o)) s.g = some (.val v g') →
          SRel P B (.next { s with tmps := putT (disT s.tmps o.op.operands.toList (moves cfg f o)) o.dst v, g := g' }) (lone (b.at a (.inRegion ops (i :: rest) :: k)) cs w) b ops rest k := by
        intro v g' hop hg
        obtain ⟨n, v', w', ν, HV', e1, e2, e3, e4, e5⟩ := glob_mem_step (P := P) h.inv hn rfl hop hg
        rw [← hev] at e1
        refine ⟨a.put o.dst v', cs, w', I, ν, HV', lv, h.step (a' := a.put o.dst v') (J := I) ?_ (put_defers ..) e3 e4 (aglob_base hg), .one (step_next ho hw e1 e2)⟩
        simp only [put_tmps]; exact e5
      have hv := vals_rep h.inv.tms o.op.operands.toList (moves cfg f o)
      have hsp := vals_spare h.inv.tms h.inv.sp o.op.operands.toList (moves cfg f o)
      have hd := h.inv.dis o.op.operands.toList (moves cfg f o) hn
      have htd := fun b => tok_dis_le h.inv o.op.operands.toList (moves cfg f o) hn b
      -- what is put behind an operation that leaves world and memory as they are
      have hquiet : ∀ (g' : G) (v : AV) (v' : Value) (a1 : Act) (cs1 : List Frame), g'.H = s.g.H → Rep I μ v' v → NoOwn v → a1.tmps = a.tmps → DRel I μ a1.defers g'.defers → RmOk I μ B.cs cs1 g'.rm → g'.rm.isNone = s.g.rm.isNone → g'.base = s.g.base →
          Good B { s with tmps := putT (disT s.tmps o.op.operands.toList (moves cfg f o)) o.dst v, g := g' } (a1.put o.dst v') cs1 w I μ HV lv := by
        intro g' v v' a1 cs1 hgH hrep hno hat hdf hrm hin hbs
        have h3 := hd.put o.dst (v := v') (r := v) (.of hrep) (hno.spare w v') (fun b => by rw [hno.tc]; have := hd.one b; unfold Eng.tok; omega)
        refine ⟨?_, ?_, hrm, by rw [hin]; exact h.dk, h.eff, fun b hb => ?_, h.mu, by rw [hbs]; exact h.bs⟩
        · simp only [put_tmps, hat, hgH]; exact h3
        · rw [put_defers]; exact hdf
        · simp only [put_tmps, hat, hgH] at hb
          have t1 := tok_put_le (μ := μ) (HV := HV) (H := s.g.H) (lv := lv) (lh := s.lh) hd.tms.1 o.dst v' v b
          have t3 := htd b
          rw [hno.tc] at t1
          exact h.tk b (by omega)
      split at hr
      · -- it goes on
        rename_i v g' hg
        simp only [Option.some.injEq] at hr; subst hr
        have hg0 := hg
        unfold aglob at hg
        split at hg
        · rename_i e hop; exact hmem v g' (.inl ⟨e, hop⟩) hg0
        · rename_i e x hop; exact hmem v g' (.inr (.inl ⟨e, x, hop⟩)) hg0
        · rename_i t x id off hop hvs; exact hmem v g' (.inr (.inr (.inl ⟨t, x, hop⟩))) hg0
        · rename_i t x y id off u hop hvs; exact hmem v g' (.inr (.inr (.inr ⟨t, x, y, hop⟩))) hg0
        · -- call
          rename_i c hop
          split at hg
          · -- recover
            rename_i hc
            split at hg
            · obtain ⟨v', cs', q1, q2, q3, q4, q5, q6, hno⟩ := recover_rel h.rm rfl hg
              have hrun : (execOp a.eval o).run P w = .ok .recover w := by
                simp [execOp, hop, resolve, hc, invoke, builtin]
              have hdk : B.dk = true := by
                have := h.dk
                cases hx : B.dk with
                | true => rfl
                | false =>
                  rw [hx] at this
                  cases hrm : s.g.rm <;> rw [hrm] at this <;> simp [RM.isNone] at this
                  simp [arecover, hrm] at hg
              have hst := step_recoverOp (P := P) (b := b) (k := k) (cs := cs) (rest := rest) ho hw (hb hdk) hrun
              refine ⟨a.put o.dst v', cs', w, I, μ, HV, lv, hquiet g' v v' a cs' q4 q2 hno rfl (by rw [q5]; exact h.df) q3 q6 (arecover_base hg), .one ?_⟩
              rw [hst]
              cases hrd : recoverD cs with
              | none => rw [hrd] at q1; cases q1; rfl
              | some x => obtain ⟨x1, x2⟩ := x; rw [hrd] at q1; cases q1; rfl
            · cases hg
          · -- a function
            rename_i x hc
            split at hg
            · rename_i g first captured args hvs
              unfold acallv at hg
              split at hg
              · cases hg
              · rename_i hlp
                have hops : o.op.operands.toList = x :: c.args.toList := by simp [hop, Op.operands, Call.operands, hc]
                have hv' := hv
                have hsp' := hsp
                rw [hvs, hops] at hv' hsp'
                obtain ⟨cf, cc, z1, z2, z3, z4⟩ := call_args hv' hsp' (by simpa using hlp)
                have htc : ∀ b, tcs b (cf.toList ++ c.args.toList.map (cevals a.tmps.toList) ++ cc.toList) (first.map AV.dis ++ args ++ captured.map AV.dis) ≤ tcs b (o.op.operands.toList.map (cevals a.tmps.toList)) (vals s.tmps o.op.operands.toList (moves cfg f o)) := fun b => by
                  rw [hvs, hops]; exact Nat.le_of_eq (z4 b)
                have hone : ∀ b, argTok μ HV s.g.H (cf.toList ++ c.args.toList.map (cevals a.tmps.toList) ++ cc.toList) (first.map AV.dis ++ args ++ captured.map AV.dis) b ≤ 1 := fun b => by
                  have q1 := htc b; have q2 := htd b; have q3 := h.inv.one b
                  unfold argTok; unfold Eng.tok at q2; omega
                split at hg
                · rename_i v1 rm1 H1 hcl1
                  simp only [Option.some.injEq, GR.val.injEq] at hg; obtain ⟨rfl, rfl⟩ := hg
                  obtain ⟨⟨fn, body, hf, hbd, hng⟩, hcalls⟩ := hcall g _ .none s.g.H _ hcl1 I μ HV w _ h.eff.le h.inv.h z2 z3 hone
                  simp only at hcalls
                  have hrun := call_run (P := P) (o := o) hop hc (ρ := a.eval) (by rw [hev]; exact z1) hf hbd hng w
                  have hca : cf ++ c.args.map a.eval ++ cc = (cf.toList ++ c.args.toList.map (cevals a.tmps.toList) ++ cc.toList).toArray := by
                    apply Array.ext'; simp [hev]
                  rw [hca] at hrun
                  obtain ⟨e, w', ⟨J, ν, HV', hp⟩, hst⟩ := call_arrives (P := P) (b := b) (k := k) (cs := cs) (rest := rest) ho hw hrun hcalls (by
                    rintro w' ⟨J, ν, HV', hp⟩
                    obtain ⟨v', hv', _⟩ := hp.outr
                    cases hv')
                  obtain ⟨v', rfl, hrep, hspr⟩ := hp.outr
                  obtain ⟨f1, f2, f3, f4, f5⟩ := call_frame h.inv hn htc hp
                  simp only [outTok] at f4 f5
                  have h3 := f1.put o.dst (v := v') (r := v1) (.of hrep) hspr f4
                  refine ⟨a.put o.dst v', cs, w', J, ν, HV', lv, ⟨?_, ?_, h.rm.mono f2.le f3, h.dk, h.eff.trans f2 h.tk, fun b' hb' => ?_, h.mu.trans f3, h.bs⟩, hst⟩
                  · simp only [put_tmps]; exact h3
                  · rw [put_defers]; exact h.df.mono f2.le f3
                  · simp only [put_tmps] at hb'
                    have t1 := tok_put_le (μ := ν) (HV := HV') (H := H1) (lv := lv) (lh := s.lh) f1.tms.1 o.dst v' v1 b'
                    rcases f5 b' (by omega) with h1 | h1
                    · exact h.tk b' h1
                    · exact .inr (Nat.le_trans h.eff.size h1)
                · cases hg
                · cases hg
            · cases hg
          · cases hg
        · -- defer
          rename_i c hop
          split at hg
          · rename_i x hc
            split at hg
            · rename_i g first captured args hvs
              split at hg
              · cases hg
              · rename_i hlp
                simp only [Option.some.injEq, GR.val.injEq] at hg; obtain ⟨rfl, rfl⟩ := hg
                have hops : o.op.operands.toList = x :: c.args.toList := by simp [hop, Op.operands, Call.operands, hc]
                have hv' := hv
                rw [hvs, hops] at hv'
                have h1 := hv'.uncons.1
                have hargs : RepL I μ (c.args.toList.map (cevals a.tmps.toList)) args := hv'.uncons.2.repL (by
                  have hlp' : (first ++ args ++ captured).any AV.isLp = false := by simpa using hlp
                  rw [List.any_append, List.any_append] at hlp'
                  simp only [Bool.or_eq_false_iff] at hlp'
                  exact hlp'.1.2)
                obtain ⟨cf, cc, hx, r1, r2⟩ : ∃ cf cc : Array Value, cevals a.tmps.toList x = .func (.func g) cf cc ∧ RepL I μ cf.toList first ∧ RepL I μ cc.toList captured := by
                  generalize cevals a.tmps.toList x = u at h1
                  cases h1 with
                  | func fn f c af ac r1 r2 _ => exact ⟨f, c, rfl, r1, r2⟩
                have hrun : (execOp a.eval o).run P w = .ok (.defer { target := .fn (.func g) cc, args := cf ++ c.args.map a.eval }) w := by
                  simp [execOp, hop, resolve, hc, hev, hx, Deferred.ofValue]
                refine ⟨_, cs, w, I, μ, HV, lv, hquiet _ (.val undef) undef { a with defers := _ :: a.defers } cs rfl (.val _ .nil) (fun _ _ h => by cases h) rfl ⟨⟨cc, rfl, ?_, noOwn_map_dis _⟩, h.df⟩ h.rm rfl rfl, .one (step_deferOp ho hw hrun)⟩
                have := ((r1.append hargs).append r2).dis
                simpa [hev] using this
            · cases hg
          · cases hg
        · cases hg
        · cases hg
      · -- it panics
        rename_i v g' hg
        simp only [Option.some.injEq] at hr; subst hr
        unfold aglob at hg
        split at hg
        · split at hg <;> simp at hg
        · split at hg <;> simp at hg
        · split at hg
          · split at hg
            · split at hg <;> simp at hg
            · simp at hg
          · simp at hg
        · split at hg
          · split at hg <;> simp at hg
          · simp at hg
        · rename_i c hop
          split at hg
          · split at hg
            · unfold arecover at hg; split at hg <;> simp at hg
            · cases hg
          · rename_i x hc
            split at hg
            · rename_i g first captured args hvs
              unfold acallv at hg
              split at hg
              · cases hg
              · rename_i hlp
                have hops : o.op.operands.toList = x :: c.args.toList := by simp [hop, Op.operands, Call.operands, hc]
                have hv' := hv
                have hsp' := hsp
                rw [hvs, hops] at hv' hsp'
                obtain ⟨cf, cc, z1, z2, z3, z4⟩ := call_args hv' hsp' (by simpa using hlp)
                have htc : ∀ b, tcs b (cf.toList ++ c.args.toList.map (cevals a.tmps.toList) ++ cc.toList) (first.map AV.dis ++ args ++ captured.map AV.dis) ≤ tcs b (o.op.operands.toList.map (cevals a.tmps.toList)) (vals s.tmps o.op.operands.toList (moves cfg f o)) := fun b => by
                  rw [hvs, hops]; exact Nat.le_of_eq (z4 b)
                have hone : ∀ b, argTok μ HV s.g.H (cf.toList ++ c.args.toList.map (cevals a.tmps.toList) ++ cc.toList) (first.map AV.dis ++ args ++ captured.map AV.dis) b ≤ 1 := fun b => by
                  have q1 := htc b; have q2 := htd b; have q3 := h.inv.one b
                  unfold argTok; unfold Eng.tok at q2; omega
                split at hg
                · cases hg
                · rename_i v1 rm1 H1 hcl1
                  simp only [Option.some.injEq, GR.panic.injEq] at hg; obtain ⟨rfl, rfl⟩ := hg
                  obtain ⟨⟨fn, body, hf, hbd, hng⟩, hcalls⟩ := hcall g _ .none s.g.H _ hcl1 I μ HV w _ h.eff.le h.inv.h z2 z3 hone
                  simp only at hcalls
                  have hrun := call_run (P := P) (o := o) hop hc (ρ := a.eval) (by rw [hev]; exact z1) hf hbd hng w
                  have hca : cf ++ c.args.map a.eval ++ cc = (cf.toList ++ c.args.toList.map (cevals a.tmps.toList) ++ cc.toList).toArray := by
                    apply Array.ext'; simp [hev]
                  rw [hca] at hrun
                  obtain ⟨e, w', ⟨J, ν, HV', hp⟩, hst⟩ := call_arrives (P := P) (b := b) (k := k) (cs := cs) (rest := rest) ho hw hrun hcalls (by
                    rintro w' ⟨J, ν, HV', hp⟩
                    obtain ⟨v', hv', _⟩ := hp.outr
                    cases hv')
                  obtain ⟨chain, rfl, hch⟩ := hp.outr
                  obtain ⟨f1, f2, f3, f4, f5⟩ := call_frame h.inv hn htc hp
                  simp only [outTok] at f4 f5
                  refine ⟨a, cs, w', J, ν, HV', lv, chain, ⟨f1, h.df.mono f2.le f3, h.rm.mono f2.le f3, h.dk, h.eff.trans f2 h.tk, fun b' hb' => ?_, h.mu.trans f3, h.bs⟩, hch, hst⟩
                  rcases f5 b' (by simpa using hb') with h1 | h1
                  · exact h.tk b' h1
                  · exact .inr (Nat.le_trans h.eff.size h1)
                · cases hg
            · cases hg
          · cases hg
        · split at hg
          · split at hg
            · split at hg <;> simp at hg
            · cases hg
          · cases hg
        · rename_i x t u hop hvs
          simp only [Option.some.injEq, GR.panic.injEq] at hg; obtain ⟨rfl, rfl⟩ := hg
          have hops : o.op.operands.toList = [x] := by simp [hop, Op.operands]
          have hv' := hv
          rw [hvs, hops] at hv'
          have h1 := hv'.uncons.1
          obtain ⟨y, hy, hrep⟩ : ∃ y, cevals a.tmps.toList x = .iface t y ∧ Rep I μ (.iface t y) (.iface t u) := by
            generalize cevals a.tmps.toList x = z at h1
            cases h1 with
            | iface _ _ _ h2 _ => exact ⟨_, rfl, .iface _ _ _ h2 .nil⟩
          have hrun : (execOp a.eval o).run P w = .halt (.panic (.iface t y)) w := by
            simp [execOp, hop, hev, hy, Instr.panic]
          refine ⟨a, cs, w, I, μ, HV, lv, _, ⟨hd, h.df, h.rm, h.dk, h.eff, fun b' hb' => ?_, h.mu, h.bs⟩, ⟨_, [], rfl, by simp, hrep⟩, ⟨_, .one (step_panicOp ho hw hrun)⟩⟩
          have := htd b'
          simp only at hb'
          exact h.tk b' (by omega)
        · cases hg
      · cases hr
  · cases hr

/-- A region's operations in an order. -/
theorem ops_sound (hcall : CallSound P B.I call) {f : FuncId} {ops : Array Oper} : ∀ (l : List Nat) {s : St} {x : AX} {s' : St}, aops P cfg call f ops l s = some (x, s') →
    ∀ {a : Act} {cs : List Frame} {w : World} {I : Mem} {μ : List Nat} {HV : List (List Value)} {lv : List LV}, Good B s a cs w I μ HV lv → ∀ {b : Frame} {k : List Item}, (B.dk = true → b.kind = .deferred) →
      (x = .normal ∧ Goes P B s' (lone (b.at a (.inRegion ops l :: k)) cs w) b ops [] k) ∨ ∃ v, x = .panic v ∧ Panics P B v s' (lone (b.at a (.inRegion ops l :: k)) cs w) b k := by
  intro l
  induction l with
  | nil =>
    intro s x s' hr a cs w I μ HV lv h b k hb
    simp only [aops, Option.some.injEq, Prod.mk.injEq] at hr
    obtain ⟨rfl, rfl⟩ := hr
    exact .inl ⟨rfl, a, cs, w, I, μ, HV, lv, h, Steps.refl P _⟩
  | cons i rest ih =>
    intro s x s' hr a cs w I μ HV lv h b k hb
    simp only [aops] at hr
    split at hr
    · cases hr
    · rename_i o ho
      have hnext : ∀ s1, Goes P B s1 (lone (b.at a (.inRegion ops (i :: rest) :: k)) cs w) b ops rest k → aops P cfg call f ops rest s1 = some (x, s') →
          (x = .normal ∧ Goes P B s' (lone (b.at a (.inRegion ops (i :: rest) :: k)) cs w) b ops [] k) ∨ ∃ v, x = .panic v ∧ Panics P B v s' (lone (b.at a (.inRegion ops (i :: rest) :: k)) cs w) b k := by
        rintro s1 ⟨a1, cs1, w1, I1, μ1, HV1, lv1, g1, st1⟩ hr1
        rcases ih hr1 g1 (b := b) (k := k) hb with ⟨rfl, a2, cs2, w2, I2, μ2, HV2, lv2, g2, st2⟩ | ⟨v, rfl, a2, cs2, w2, I2, μ2, HV2, lv2, ch, g2, c2, st2⟩
        · exact .inl ⟨rfl, a2, cs2, w2, I2, μ2, HV2, lv2, g2, st1.trans st2⟩
        · exact .inr ⟨v, rfl, a2, cs2, w2, I2, μ2, HV2, lv2, ch, g2, c2, .of_steps st1 st2⟩
      split at hr
      · rename_i s1 hs
        unfold astep at hs
        split at hs
        · rename_i hw
          exact hnext s1 (op_sound hcall h hs ho (wanted_sound h hw) hb) hr
        · rename_i hw
          simp only [Option.some.injEq, SR.next.injEq] at hs
          subst hs
          have hw' := wanted_sound h hw
          have h3 := h.inv.put o.dst (v := undef) (r := .val undef) (.of (.val _ .nil)) (fun _ _ _ _ _ _ _ h => by cases h) (fun b => by have := h.inv.one b; unfold Eng.tok; simp only [tc, undef]; omega)
          refine hnext { s with tmps := putT s.tmps o.dst (.val undef) } ⟨a.put o.dst undef, cs, w, I, μ, HV, lv, ⟨?_, by rw [put_defers]; exact h.df, h.rm, h.dk, h.eff, fun b' hb' => ?_, h.mu, h.bs⟩, .one ?_⟩ hr
          · simp only [put_tmps]; exact h3
          · simp only [put_tmps] at hb'
            have t1 := tok_put_le (μ := μ) (HV := HV) (H := s.g.H) (lv := lv) (lh := s.lh) h.inv.tms.1 o.dst undef (.val undef) b'
            have t4 : tc b' undef (.val undef) = 0 := rfl
            exact h.tk b' (by omega)
          · have := step_op_skip (P := P) (b := b) (a := a) (k := k) (cs := cs) (w := w) (ops := ops) (i := i) (rest := rest) (by simp [ho, hw'])
            simp only [ho, Option.bind_some] at this
            exact this
        · cases hs
      · rename_i v s1 hs
        simp only [Option.some.injEq, Prod.mk.injEq] at hr
        obtain ⟨rfl, rfl⟩ := hr
        unfold astep at hs
        split at hs
        · rename_i hw
          exact .inr ⟨v, rfl, op_sound hcall h hs ho (wanted_sound h hw) hb⟩
        · cases hs
        · cases hs
      · cases hr
end
end Go.Eng
