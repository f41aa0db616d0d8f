/-
  THE ENGINE, part 19: code told as a tree: where a truth value is not known it parts, where a function is called it asks.
  The tree of a piece of code without loops is found by evaluation (kernel), its meaning (wp) is what the code does.
-/
import Derived.Test.YtjallencclngiaaGreatE18
set_option linter.unusedVariables false
set_option linter.unusedSimpArgs false
namespace Go.Eng

/-- What a cell holds. -/
inductive CSh where
  | any
  | bool
  | int (k : IntKind)
  | str
  | slice (sz : Nat)
  deriving Inhabited

/-- What a row's cells hold, each by its number. -/
structure Lf where
  b : Nat → Bool
  i : Nat → Int
  s : Nat → ByteArray
  l : Nat → List (List AV)
  a : Nat → AV

def mkRow (lf : Lf) : Nat → List CSh → List AV
  | _, [] => []
  | n, .any :: r => lf.a n :: mkRow lf (n + 1) r
  | n, .bool :: r => .val (.bool (lf.b n)) :: mkRow lf (n + 1) r
  | n, .int k :: r => .val (.int k (lf.i n)) :: mkRow lf (n + 1) r
  | n, .str :: r => .val (.string (lf.s n)) :: mkRow lf (n + 1) r
  | n, .slice sz :: r => .slice sz (lf.l n) .no :: mkRow lf (n + 1) r

inductive Tr where
  | fail
  | done (x : AX) (s : St)
  | ret (r : CRes)
  | branch (b : Bool) (t f : Tr)
  | row (rows : List (List AV)) (i : Int) (shape : List CSh) (k : Lf → Tr)
  | callB (g : FuncId) (args : List AV) (H : Heap) (k : Bool → Heap → Tr)
  | callI (kd : IntKind) (g : FuncId) (args : List AV) (H : Heap) (k : Int → Heap → Tr)
  | callV (g : FuncId) (args : List AV) (H : Heap) (k : AV → Heap → Tr)

/-- What a function answers with. -/
inductive Sh where
  | any
  | bool
  | int (k : IntKind)
  deriving Inhabited

def Tr.wp (call : CallF) (QD : AX → St → Prop) (QR : CRes → Prop) : Tr → Prop
  | .fail => False
  | .done x s => QD x s
  | .ret r => QR r
  | .branch b t f => (b = true → t.wp call QD QR) ∧ (b = false → f.wp call QD QR)
  | .row rows i shape k => ∃ lf, 0 ≤ i ∧ rows[i.toNat]? = some (mkRow lf 0 shape) ∧ (k lf).wp call QD QR
  | .callB g args H k => ∃ b m H', call g args .none H = some ⟨.ret (.val (.bool b)), m, H'⟩ ∧ (k b H').wp call QD QR
  | .callI kd g args H k => ∃ i m H', call g args .none H = some ⟨.ret (.val (.int kd i)), m, H'⟩ ∧ (k i H').wp call QD QR
  | .callV g args H k => ∃ v m H', call g args .none H = some ⟨.ret v, m, H'⟩ ∧ (k v H').wp call QD QR

def noCall : CallF := fun _ _ _ _ => none

def clr (kn : Nat) : Option Tmp → Nat
  | some t => if kn.testBit t = true then kn ^^^ 2 ^ t else kn
  | none => kn

def knownOp (kn : Nat) : Operand → Bool
  | .tmp t => kn.testBit t
  | .const _ => true
  | _ => false

/-- Is what an operation has made known beforehand? (Only to part no more than needed.) -/
def knownDst (o : Oper) (kn : Nat) (s : St) : Bool :=
  match o.op with
  | .move x => knownOp kn x
  | .assign x => knownOp kn x
  | .unOp _ _ x => knownOp kn x
  | .pick (.tmp t) a b => match kn.testBit t with
    | true => match s.tmps[t]? with
      | some (.val (.bool true)) => knownOp kn a
      | some (.val (.bool false)) => knownOp kn b
      | _ => false
    | false => false
  | _ => false

def upd (kn : Nat) (o : Oper) (s : St) : Nat :=
  match knownDst o kn s with
  | true => match o.dst with
    | some t => kn ||| 2 ^ t
    | none => kn
  | false => clr kn o.dst

def setB (s : St) (t : Tmp) (b : Bool) : St := { s with tmps := s.tmps.set t (.val (.bool b)) }

section
variable (P : Program) (cfg : FuncId → FCfg) (sh : FuncId → Sh) (rs : TypeId → List CSh)

/-- Is it wanted? -/
def kwant (dsts : List (Option Tmp)) (o : Oper) (kn : Nat) (s : St) (k : Bool → Nat → St → Tr) : Tr :=
  match o.guard with
  | none => k true kn s
  | some (j, want) => match dsts.getD j none with
    | none => k false kn s
    | some t => match s.tmps[t]? with
      | none => k false kn s
      | some (.val (.bool b)) => match kn.testBit t with
        | true => match b with
          | true => k (true == want) kn s
          | false => k (false == want) kn s
        | false => .branch b (k (true == want) (kn ||| 2 ^ t) (setB s t true)) (k (false == want) (kn ||| 2 ^ t) (setB s t false))
      | some (.val _) => k false kn s
      | some _ => .fail

def kap (f : FuncId) (o : Oper) (s : St) (k : St → Tr) (kp : AV → St → Tr) : Tr :=
  match aop P cfg noCall f o s with
  | some (.next s') => k s'
  | some (.panic v s') => kp v s'
  | none => .fail

def kcall (g : FuncId) (args : List AV) (H : Heap) (k : AV → Heap → Tr) : Tr :=
  match args.any AV.isLp with
  | true => .fail
  | false => match sh g with
    | .any => .callV g args H k
    | .bool => .callB g args H fun b H => k (.val (.bool b)) H
    | .int kd => .callI kd g args H fun i H => k (.val (.int kd i)) H

def kop (f : FuncId) (o : Oper) (kn : Nat) (s : St) (k : Nat → St → Tr) (kp : AV → St → Tr) : Tr :=
  let dflt := kap P cfg f o s (k kn) kp
  match o.op with
  | .pick (.tmp t) _ _ => match kn.testBit t with
    | true => dflt
    | false => match s.tmps[t]? with
      | some (.val (.bool b)) => .branch b (kap P cfg f o (setB s t true) (k (kn ||| 2 ^ t)) kp) (kap P cfg f o (setB s t false) (k (kn ||| 2 ^ t)) kp)
      | _ => dflt
  | .indexAddr ty x i => match vals s.tmps [x, i] [] with
    | [.slice sz rows _, .val (.int _ i)] => match P.underlying ty with
      | some (.slice e) => match decide (size? P e = some sz) with
        | true => .row rows i (rs e) fun lf => k kn { s with tmps := putT s.tmps o.dst (.ref (mkRow lf 0 (rs e))) }
        | false => .fail
      | _ => dflt
    | _ => dflt
  | .call c => match c.callee with
    | .value _ => match decide (movedTmps o.op.operands.toList (moves cfg f o)).Nodup with
      | true => match vals s.tmps o.op.operands.toList (moves cfg f o) with
        | .func (.func g) first captured :: args => kcall sh g (first.map AV.dis ++ args ++ captured.map AV.dis) s.g.H fun v H =>
            k kn { s with tmps := putT (disT s.tmps o.op.operands.toList (moves cfg f o)) o.dst v, g := { s.g with H := H } }
        | _ => .fail
      | false => .fail
    | _ => dflt
  | _ => dflt

def kops (f : FuncId) (dsts : List (Option Tmp)) : List Oper → Nat → List (Option Cls) → St → (AX → List (Option Cls) → Nat → St → Tr) → Tr
  | [], kn, acc, s, k => k .normal acc kn s
  | o :: r, kn, acc, s, k => kwant dsts o kn s fun w kn s =>
    match w with
    | true => kop P cfg sh rs f o kn s (fun kn' s' => kops f dsts r (upd kn' o s') (some (acls cfg f o (vals s.tmps o.op.operands.toList (moves cfg f o))) :: acc) s' k) (fun v s' => k (.panic v) acc 0 s')
    | false => kops f dsts r (clr kn o.dst) (none :: acc) { s with tmps := putT s.tmps o.dst (.val undef) } k

def kcode (f : FuncId) : (b : Nat) → Code → Nat → St → (AX → Nat → St → Tr) → Tr
  | _, .skip, kn, s, k => k .normal kn s
  | _, .region _ ops false, kn, s, k => kops P cfg sh rs f (ops.toList.map (·.dst)) ops.toList kn [] s fun x _ kn s => k x kn s
  | _, .region _ ops true, kn, s, k => kops P cfg sh rs f (ops.toList.map (·.dst)) ops.toList kn [] s fun x acc kn s =>
    match x with
    | .normal => match checkD cfg f (ops.toList.map (·.dst)) ops.toList acc.reverse 0 [] [] with
      | true => k .normal kn s
      | false => .fail
    | _ => .fail
  | b, .seq x y, kn, s, k => kcode f b x kn s fun r kn s => match r with
    | .normal => kcode f b y kn s k
    | .exit id => k (.exit id) kn s
    | .ret => k .ret kn s
    | .panic v => k (.panic v) kn s
  | b, .cond (.tmp t) x y, kn, s, k => match s.tmps[t]? with
    | some (.val (.bool v)) => match kn.testBit t with
      | true => match v with
        | true => kcode f b x kn s k
        | false => kcode f b y kn s k
      | false => .branch v (kcode f b x (kn ||| 2 ^ t) (setB s t true) k) (kcode f b y (kn ||| 2 ^ t) (setB s t false) k)
    | _ => .fail
  | _, .block id x, kn, s, k => kcode f id x kn s fun r kn s => match r with
    | .exit i => match decide (i = id) with
      | true => k .normal kn s
      | false => k (.exit i) kn s
    | .normal => k .normal kn s
    | .ret => k .ret kn s
    | .panic v => k (.panic v) kn s
  | _, .exit id, kn, s, k => k (.exit id) kn s
  | _, .ret, kn, s, k => k .ret kn s
  | _, _, _, _, _ => .fail

/-- The end of a frame without deferred calls. -/
def kfin (fn : Func) (x : AX) (s : St) : Tr :=
  match s.g.rm, s.g.defers with
  | .none, [] => match x with
    | .normal | .ret => match aresults P s s.g.H fn.results.toList with
      | some l => .ret ⟨.ret (resultOf l), .none, s.g.H⟩
      | none => .fail
    | .panic v => .ret ⟨.panic v, .none, s.g.H⟩
    | .exit _ => .fail
  | _, _ => .fail

def start (fn : Func) (args : List AV) (H : Heap) : St := ⟨args ++ List.replicate (fn.ntmps - args.length) (.val undef), List.replicate fn.ntmps none, ⟨H, [], .none⟩⟩

def kbody (f : FuncId) (fn : Func) (c : Code) (args : List AV) (H : Heap) : Tr := kcode P cfg sh rs f 0 c 0 (start fn args H) fun x _ s => kfin P fn x s
end

section
variable {P : Program} {cfg : FuncId → FCfg} {sh : FuncId → Sh} {rs : TypeId → List CSh} {call : CallF} {f : FuncId} {QD : AX → St → Prop} {QR : CRes → Prop}

theorem noCall_le : LeC noCall call := fun _ _ _ _ _ h => by cases h

theorem setB_eq {s : St} {t : Tmp} {b : Bool} (h : s.tmps[t]? = some (.val (.bool b))) : setB s t b = s := by
  unfold setB
  have : s.tmps.set t (.val (.bool b)) = s.tmps := by
    apply List.ext_getElem?
    intro i
    rw [List.getElem?_set]
    split
    · rename_i e; subst e
      split
      · exact h.symm
      · rename_i hl
        rw [List.getElem?_eq_none (by omega)] at h; cases h
    · rfl
  rw [this]

theorem wp_branch {b : Bool} {t f : Tr} (h : (Tr.branch b t f).wp call QD QR) : (b = true ∧ t.wp call QD QR) ∨ (b = false ∧ f.wp call QD QR) := by
  cases b
  · exact .inr ⟨rfl, h.2 rfl⟩
  · exact .inl ⟨rfl, h.1 rfl⟩

theorem kwant_sound {dsts : List (Option Tmp)} {o : Oper} {kn : Nat} {s : St} {k : Bool → Nat → St → Tr} (h : (kwant dsts o kn s k).wp call QD QR) :
    ∃ w kn', wantedG dsts o s.tmps = some w ∧ (k w kn' s).wp call QD QR := by
  unfold kwant at h
  unfold wantedG
  split at h
  · rename_i e; simp only [e]; exact ⟨_, _, rfl, h⟩
  · rename_i j want e
    simp only [e, gval]
    split at h
    · rename_i e2; simp only [e2]; exact ⟨_, _, rfl, h⟩
    · rename_i t e2
      simp only [e2]
      split at h
      · rename_i e3; simp only [e3]; exact ⟨_, _, rfl, h⟩
      · rename_i b e3
        simp only [e3]
        split at h
        · cases b <;> exact ⟨_, _, rfl, h⟩
        · rcases wp_branch h with ⟨rfl, h'⟩ | ⟨rfl, h'⟩
          · rw [setB_eq e3] at h'; exact ⟨_, _, rfl, h'⟩
          · rw [setB_eq e3] at h'; exact ⟨_, _, rfl, h'⟩
      · rename_i v hv e3
        simp only [e3]
        exact ⟨false, _, rfl, h⟩
      · exact h.elim

theorem kap_sound {o : Oper} {s : St} {k : St → Tr} {kp : AV → St → Tr} (h : (kap P cfg f o s k kp).wp call QD QR) :
    (∃ s', aop P cfg call f o s = some (.next s') ∧ (k s').wp call QD QR) ∨ ∃ v s', aop P cfg call f o s = some (.panic v s') ∧ (kp v s').wp call QD QR := by
  unfold kap at h
  split at h
  · rename_i e; exact .inl ⟨_, aop_mono noCall_le e, h⟩
  · rename_i e; exact .inr ⟨_, _, aop_mono noCall_le e, h⟩
  · exact h.elim

theorem kcall_sound {g : FuncId} {args : List AV} {H : Heap} {k : AV → Heap → Tr} (h : (kcall sh g args H k).wp call QD QR) :
    args.any AV.isLp = false ∧ ∃ v m H', call g args .none H = some ⟨.ret v, m, H'⟩ ∧ (k v H').wp call QD QR := by
  unfold kcall at h
  split at h
  · exact h.elim
  · rename_i hl
    refine ⟨hl, ?_⟩
    split at h
    · obtain ⟨v, m, H', h1, h2⟩ := h; exact ⟨_, _, _, h1, h2⟩
    · obtain ⟨v, m, H', h1, h2⟩ := h; exact ⟨_, _, _, h1, h2⟩
    · obtain ⟨v, m, H', h1, h2⟩ := h; exact ⟨_, _, _, h1, h2⟩

theorem kop_sound {o : Oper} {kn : Nat} {s : St} {k : Nat → St → Tr} {kp : AV → St → Tr} (h : (kop P cfg sh rs f o kn s k kp).wp call QD QR) :
    (∃ s' kn', aop P cfg call f o s = some (.next s') ∧ (k kn' s').wp call QD QR) ∨ ∃ v s', aop P cfg call f o s = some (.panic v s') ∧ (kp v s').wp call QD QR := by
  have dflt : ∀ {kn'}, (kap P cfg f o s (k kn') kp).wp call QD QR → (∃ s' kn', aop P cfg call f o s = some (.next s') ∧ (k kn' s').wp call QD QR) ∨ ∃ v s', aop P cfg call f o s = some (.panic v s') ∧ (kp v s').wp call QD QR := by
    intro kn' h
    rcases kap_sound h with ⟨s', h1, h2⟩ | h
    · exact .inl ⟨s', _, h1, h2⟩
    · exact .inr h
  unfold kop at h
  simp only at h
  split at h
  · split at h
    · exact dflt h
    · split at h
      · rename_i e3
        rcases wp_branch h with ⟨rfl, h'⟩ | ⟨rfl, h'⟩
        · rw [setB_eq e3] at h'; exact dflt h'
        · rw [setB_eq e3] at h'; exact dflt h'
      · exact dflt h
  · rename_i ty x i eo
    split at h
    · rename_i sz rows own kd ix ev1
      split at h
      · rename_i e eu
        split at h
        · rename_i hs
          obtain ⟨lf, h0, h1, h2⟩ := h
          refine .inl ⟨_, _, ?_, h2⟩
          have hs := of_decide_eq_true hs
          have hm : moves cfg f o = [] := by unfold moves; rw [eo]
          have ho : o.op.operands.toList = [x, i] := by rw [eo]; rfl
          have hcl : acls cfg f o [.slice sz rows own, .val (.int kd ix)] = .pure := by unfold acls; rw [eo]
          have hp : apure P o [.slice sz rows own, .val (.int kd ix)] = some (.ref (mkRow lf 0 (rs e))) := by
            unfold apure; rw [eo]; simp only [aindexAddr, eu, h0, if_true, h1, hs]
          have hd : disT s.tmps [x, i] [] = s.tmps := by cases x <;> rfl
          have hmv : movedTmps [x, i] [] = [] := by cases x <;> rfl
          unfold aop
          simp only [hm, ho, ev1, hmv, List.nodup_nil, if_true, hcl, hp, hd]
        · exact h.elim
      · exact dflt h
    · exact dflt h
  · rename_i c eo
    split at h
    · rename_i cv ec
      split at h
      · rename_i hn
        have hn := of_decide_eq_true hn
        split at h
        · rename_i g first captured args ev1
          obtain ⟨hl, v, m, H', h1, h2⟩ := kcall_sound h
          refine .inl ⟨_, _, ?_, h2⟩
          have hcl : ∀ vs, acls cfg f o vs = .glob true := by intro vs; unfold acls; rw [eo]; simp only [ec]
          have hg : aglob P cfg call f o (.func (.func g) first captured :: args) s.g = some (.val v { s.g with H := H' }) := by
            unfold aglob; rw [eo]; simp only [ec, acallv, hl, Bool.false_eq_true, if_false, h1]
          unfold aop
          simp only [hn, if_true, hcl, ev1, hg]
        · exact h.elim
      · exact h.elim
    · exact dflt h
  · exact dflt h

theorem kops_sound {dsts : List (Option Tmp)} : ∀ {l : List Oper} {kn : Nat} {acc : List (Option Cls)} {s : St} {k : AX → List (Option Cls) → Nat → St → Tr}, (kops P cfg sh rs f dsts l kn acc s k).wp call QD QR →
    ∃ x acc' kn' s', aopsC P cfg call f dsts l acc s = some (x, acc', s') ∧ (k x acc' kn' s').wp call QD QR := by
  intro l
  induction l with
  | nil => intro kn acc s k h; exact ⟨_, _, _, _, rfl, h⟩
  | cons o r ih =>
    intro kn acc s k h
    unfold kops at h
    obtain ⟨w, kn1, hw, h⟩ := kwant_sound h
    simp only [aopsC, hw]
    cases w with
    | true =>
      rcases kop_sound h with ⟨s', kn2, h1, h2⟩ | ⟨v, s', h1, h2⟩
      · simp only [h1]; exact ih h2
      · simp only [h1]; exact ⟨_, _, _, _, rfl, h2⟩
    | false => exact ih h

theorem kcode_sound : ∀ {c : Code} {b : Nat} {kn : Nat} {s : St} {k : AX → Nat → St → Tr}, (kcode P cfg sh rs f b c kn s k).wp call QD QR → ∃ x kn' s', codeE P cfg call f b c s = some (x, s') ∧ (k x kn' s').wp call QD QR := by
  intro c
  induction c with
  | skip => intro b kn s k h; exact ⟨_, _, _, rfl, h⟩
  | region id ops d =>
    intro b kn s k h
    cases d with
    | false =>
      unfold kcode at h
      obtain ⟨x, acc, kn', s', h1, h2⟩ := kops_sound h
      have := aopsC_aops ops.toList 0 [] s x acc s' (by simp) h1
      exact ⟨x, kn', s', by simpa only [codeE, List.drop_zero] using this, h2⟩
    | true =>
      unfold kcode at h
      obtain ⟨x, acc, kn', s', h1, h2⟩ := kops_sound h
      cases x with
      | normal =>
        simp only at h2
        split at h2
        · rename_i hc
          have := aopsC_adraw ops.toList 0 [] [] s acc s' h1 hc
          exact ⟨.normal, kn', s', by simp only [codeE, this], h2⟩
        · exact h2.elim
      | _ => exact h2.elim
  | seq x y ihx ihy =>
    intro b kn s k h
    unfold kcode at h
    obtain ⟨r, kn', s', h1, h2⟩ := ihx h
    cases r with
    | normal =>
      obtain ⟨r, kn2, s2, h3, h4⟩ := ihy h2
      exact ⟨r, kn2, s2, by simp only [codeE, h1]; exact h3, h4⟩
    | exit id => exact ⟨_, _, _, by simp only [codeE, h1], h2⟩
    | ret => exact ⟨_, _, _, by simp only [codeE, h1], h2⟩
    | panic v => exact ⟨_, _, _, by simp only [codeE, h1], h2⟩
  | cond c x y ihx ihy =>
    intro b kn s k h
    cases c with
    | tmp t =>
      simp only [kcode] at h
      split at h
      · rename_i v e
        have he : aeval s.tmps (.tmp t) = .val (.bool v) := by simp only [aeval, List.getD_eq_getElem?_getD, e, Option.getD_some]
        have go : ∀ (v' : Bool) kn', v = v' → (kcode P cfg sh rs f b (match v' with | true => x | false => y) kn' s k).wp call QD QR → ∃ x_1 kn' s', codeE P cfg call f b (.cond (.tmp t) x y) s = some (x_1, s') ∧ (k x_1 kn' s').wp call QD QR := by
          intro v' kn' hv h
          subst hv
          cases v with
          | true => obtain ⟨r, kn2, s2, h3, h4⟩ := ihx h; exact ⟨r, kn2, s2, by simp only [codeE, he]; exact h3, h4⟩
          | false => obtain ⟨r, kn2, s2, h3, h4⟩ := ihy h; exact ⟨r, kn2, s2, by simp only [codeE, he]; exact h3, h4⟩
        split at h
        · cases v with
          | true => exact go true _ rfl h
          | false => exact go false _ rfl h
        · rcases wp_branch h with ⟨rfl, h'⟩ | ⟨rfl, h'⟩
          · rw [setB_eq e] at h'; exact go true _ rfl h'
          · rw [setB_eq e] at h'; exact go false _ rfl h'
      · exact h.elim
    | _ => exact h.elim
  | block id x ih =>
    intro b kn s k h
    unfold kcode at h
    obtain ⟨r, kn', s', h1, h2⟩ := ih h
    cases r with
    | exit i =>
      simp only at h2
      split at h2
      · rename_i e; have e := of_decide_eq_true e
        exact ⟨_, _, _, by simp only [codeE, h1, e, if_true], h2⟩
      · rename_i e; have e := of_decide_eq_false e
        exact ⟨_, _, _, by simp only [codeE, h1, e, if_false], h2⟩
    | normal => exact ⟨_, _, _, by simp only [codeE, h1], h2⟩
    | ret => exact ⟨_, _, _, by simp only [codeE, h1], h2⟩
    | panic v => exact ⟨_, _, _, by simp only [codeE, h1], h2⟩
  | exit id => intro b kn s k h; exact ⟨_, _, _, rfl, h⟩
  | ret => intro b kn s k h; exact ⟨_, _, _, rfl, h⟩
  | _ => intro b kn s k h; exact h.elim

theorem kfin_sound {fn : Func} {x : AX} {s : St} (h : (kfin P fn x s).wp call QD QR) (hq : ∀ x s, ¬ QD x s) :
    ∃ r, (match x with | .normal => afinish P call fn s .returning | .ret => afinish P call fn s .returning | .panic v => afinish P call fn s (.panicking v false) | _ => none) = some r ∧ QR r := by
  unfold kfin at h
  split at h
  · rename_i hrm hdf
    cases x with
    | normal =>
      simp only at h
      split at h
      · rename_i l e; exact ⟨_, by simp only [afinish, hrm, hdf, adefers, e], h⟩
      · exact h.elim
    | ret =>
      simp only at h
      split at h
      · rename_i l e; exact ⟨_, by simp only [afinish, hrm, hdf, adefers, e], h⟩
      · exact h.elim
    | panic v => exact ⟨_, by simp only [afinish, hrm, hdf, adefers], h⟩
    | exit id => exact h.elim
  · exact h.elim

theorem kbody_sound {fn : Func} {c : Code} {args : List AV} {H : Heap} (h : (kbody P cfg sh rs f fn c args H).wp call (fun _ _ => False) QR) : ∃ r, bodyE P cfg call f fn c args .none H = some r ∧ QR r := by
  unfold kbody at h
  obtain ⟨x, kn, s, h1, h2⟩ := kcode_sound h
  obtain ⟨r, h3, h4⟩ := kfin_sound h2 (fun _ _ h => h)
  refine ⟨r, ?_, h4⟩
  unfold start at h1
  unfold bodyE
  rw [h1]
  cases x <;> first | exact h3 | cases h3

theorem WC_tree {c : Code} {b kn : Nat} {s : St} {Q : AX → St → Prop} {t : Tr} (ht : kcode P cfg sh rs f b c kn s (fun x _ s => .done x s) = t) (h : t.wp call Q (fun _ => False)) : WC P cfg call f b c Q s := by
  subst ht
  obtain ⟨x, kn', s', h1, h2⟩ := kcode_sound h
  exact ⟨x, s', h1, h2⟩

theorem ev_tree {ext : Ext} {fn : Func} {c : Code} {args : List AV} {H : Heap} {r : CRes} {t : Tr} (hx : ext f = none) (hf : P.funcs[f]? = some fn) (hc : fn.body = some c)
    (ht : kbody P cfg sh rs f fn c args H = t) (h : t.wp (ev P cfg ext) (fun _ _ => False) (fun r' => r' = r)) : ev P cfg ext f args .none H = some r := by
  subst ht
  obtain ⟨r', h1, rfl⟩ := kbody_sound h
  exact ev_body hx hf hc h1

/-- A function with loops: by its code. -/
theorem ev_WC {ext : Ext} {fn : Func} {c : Code} {args : List AV} {H : Heap} {r : CRes} (hx : ext f = none) (hf : P.funcs[f]? = some fn) (hc : fn.body = some c)
    (h : WC P cfg (ev P cfg ext) f 0 c (fun x s => (kfin P fn x s).wp (ev P cfg ext) (fun _ _ => False) (fun r' => r' = r)) (start fn args H)) : ev P cfg ext f args .none H = some r := by
  obtain ⟨x, s, h1, h2⟩ := h
  obtain ⟨r', h3, rfl⟩ := kfin_sound h2 (fun _ _ h => h)
  refine ev_body hx hf hc ?_
  unfold start at h1
  unfold bodyE
  rw [h1]
  cases x <;> first | exact h3 | cases h3
end
end Go.Eng
