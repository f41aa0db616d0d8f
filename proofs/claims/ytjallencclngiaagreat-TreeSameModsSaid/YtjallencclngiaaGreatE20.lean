/-
  THE ENGINE, part 20: a function with one loop, by trees: of what comes ahead of the loop, and of a round (with what follows it).
-/
import Derived.Test.YtjallencclngiaaGreatE19
set_option linter.unusedVariables false
set_option linter.unusedSimpArgs false
namespace Go.Eng

section
variable {P : Program} {cfg : FuncId → FCfg} {sh : FuncId → Sh} {rs : TypeId → List CSh} {call : CallF} {f : FuncId}

theorem WC_seq_iff {b : Nat} {x y : Code} {Q : AX → St → Prop} {s : St} : WC P cfg call f b (.seq x y) Q s ↔ WC P cfg call f b x (Then (fun s => WC P cfg call f b y Q s) Q) s := by
  constructor
  · rintro ⟨r, s', h1, h2⟩
    simp only [codeE] at h1
    split at h1
    · rename_i s1 e; exact ⟨_, _, e, ⟨_, _, h1, h2⟩⟩
    · rename_i hn
      refine ⟨_, _, h1, ?_⟩
      cases r with
      | normal => exact absurd h1 (hn _)
      | exit id => exact h2
      | ret => exact h2
      | panic v => exact h2
  · intro h
    refine WC_seq fun K hK => WC_mono h fun x s hx => ?_
    cases x with
    | normal => exact hK _ hx
    | exit id => exact hx
    | ret => exact hx
    | panic v => exact hx

theorem WC_turn {b : Nat} {a c d l t : Code} {Q : AX → St → Prop} {s : St} (h : WC P cfg call f b (.seq a (.seq c d)) (Then (fun s => WC P cfg call f b l (Then (fun s => WC P cfg call f b t Q s) Q) s) Q) s) :
    WC P cfg call f b (.seq a (.seq c (.seq (.seq d l) t))) Q s := by
  rw [WC_seq_iff] at h ⊢
  refine WC_mono h fun x s h => ?_
  cases x with
  | normal =>
    simp only [Then] at h ⊢
    rw [WC_seq_iff] at h ⊢
    refine WC_mono h fun x s h => ?_
    cases x with
    | normal =>
      simp only [Then] at h ⊢
      rw [WC_seq_iff, WC_seq_iff]
      refine WC_mono h fun x s h => ?_
      cases x <;> exact h
    | _ => exact h
  | _ => exact h

/-- To the loop's head. -/
def kTo (P : Program) (fn : Func) (live : Option Nat) (x : AX) (s : St) : Tr :=
  match x with
  | .normal => match maskSt live s with
    | some s0 => .done .normal s0
    | none => .fail
  | .exit _ => .fail
  | .ret => kfin P fn .ret s
  | .panic v => kfin P fn (.panic v) s

/-- Out of a round. -/
def kRound (P : Program) (cfg : FuncId → FCfg) (sh : FuncId → Sh) (rs : TypeId → List CSh) (f : FuncId) (fn : Func) (live : Option Nat) (id : Nat) (tl : Code) (x : AX) (s : St) : Tr :=
  match x with
  | .normal => match maskSt live s with
    | some s0 => .done .normal s0
    | none => .fail
  | .exit j => match decide (j = id) with
    | true => kcode P cfg sh rs f 0 tl 0 s fun x _ s => kfin P fn x s
    | false => .fail
  | .ret => kfin P fn .ret s
  | .panic v => kfin P fn (.panic v) s

def kHead (P : Program) (cfg : FuncId → FCfg) (sh : FuncId → Sh) (rs : TypeId → List CSh) (f : FuncId) (fn : Func) (id : Nat) (c : Code) (args : List AV) (H : Heap) : Tr :=
  kcode P cfg sh rs f 0 c 0 (start fn args H) fun x _ s => kTo P fn (liveAt (cfg f).live id) x s

def kLoop (P : Program) (cfg : FuncId → FCfg) (sh : FuncId → Sh) (rs : TypeId → List CSh) (f : FuncId) (fn : Func) (id : Nat) (body tl : Code) (s : St) : Tr :=
  kcode P cfg sh rs f id body 0 s fun x _ s => kRound P cfg sh rs f fn (liveAt (cfg f).live id) id tl x s

theorem ev_loop {ext : Ext} {fn : Func} {a c d body tl : Code} {id : Nat} {args : List AV} {H : Heap} {r : CRes} (I : Nat → St → Prop) (hx : ext f = none) (hf : P.funcs[f]? = some fn)
    (hc : fn.body = some (.seq a (.seq c (.seq (.seq d (.block id (.loop body))) tl))))
    (h0 : (kHead P cfg sh rs f fn id (.seq a (.seq c d)) args H).wp (ev P cfg ext) (fun _ s0 => ∃ n, I n s0) (fun r' => r' = r))
    (hr : ∀ n s, I n s → (kLoop P cfg sh rs f fn id body tl s).wp (ev P cfg ext) (fun _ s0 => ∃ m, m < n ∧ I m s0) (fun r' => r' = r)) : ev P cfg ext f args .none H = some r := by
  have fin : ∀ {x : AX} {s : St} {QD : AX → St → Prop}, (kfin P fn x s).wp (ev P cfg ext) QD (fun r' => r' = r) → (kfin P fn x s).wp (ev P cfg ext) (fun _ _ => False) (fun r' => r' = r) := by
    intro x s QD h
    have key : ∀ t : Tr, t = .fail ∨ (∃ r, t = .ret r) → t.wp (ev P cfg ext) QD (fun r' => r' = r) → t.wp (ev P cfg ext) (fun _ _ => False) (fun r' => r' = r) := by
      rintro t (rfl | ⟨r, rfl⟩) h <;> exact h
    refine key _ ?_ h
    unfold kfin
    split
    · cases x with
      | exit id => exact .inl rfl
      | panic v => exact .inr ⟨_, rfl⟩
      | normal =>
        simp only
        split
        · exact .inr ⟨_, rfl⟩
        · exact .inl rfl
      | ret =>
        simp only
        split
        · exact .inr ⟨_, rfl⟩
        · exact .inl rfl
    · exact .inl rfl
  refine ev_WC hx hf hc (WC_turn ?_)
  unfold kHead at h0
  obtain ⟨x, kn, s1, h1, h2⟩ := kcode_sound h0
  refine ⟨x, s1, h1, ?_⟩
  cases x with
  | exit j => exact h2.elim
  | ret => exact fin h2
  | panic v => exact fin h2
  | normal =>
    simp only [kTo] at h2
    split at h2
    · rename_i s0 hm
      obtain ⟨n, hI⟩ := h2
      refine WC_block (WC_loop I n ⟨s0, hm, hI⟩ ?_)
      intro n s hI K hK
      have h := hr n s hI
      unfold kLoop at h
      obtain ⟨x, kn, s1, h1, h2⟩ := kcode_sound h
      refine ⟨x, s1, h1, ?_⟩
      cases x with
      | normal =>
        simp only [kRound] at h2
        split at h2
        · rename_i s0 hm
          obtain ⟨m, hmn, hI⟩ := h2
          exact hK _ m hmn ⟨s0, hm, hI⟩
        · exact h2.elim
      | ret => exact fin h2
      | panic v => exact fin h2
      | exit j =>
        simp only [kRound] at h2
        split at h2
        · rename_i e
          have e := of_decide_eq_true e
          simp only [Then, Out', e, if_true]
          obtain ⟨x, kn, s3, h3, h4⟩ := kcode_sound h2
          exact ⟨x, s3, h3, fin h4⟩
        · exact h2.elim
    · exact h2.elim
end
end Go.Eng
