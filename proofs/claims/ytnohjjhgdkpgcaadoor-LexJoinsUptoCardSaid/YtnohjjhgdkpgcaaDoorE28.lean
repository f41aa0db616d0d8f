/-
  THE ENGINE, part 28: trees of the second kind: loops by their rounds; ways into a tree; aids.
-/
import Derived.Test.YtnohjjhgdkpgcaaDoorE27
import Derived.Test.YtnohjjhgdkpgcaaDoorE26
import Derived.IntWalk
set_option linter.unusedVariables false
set_option linter.unusedSimpArgs false
namespace Go.Eng

def tmFrom2 : Nat → Nat → List (Nat × AV) → List AV
  | _, 0, _ => []
  | i, n + 1, l => (match l.lookup i with | some v => v | none => .any) :: tmFrom2 (i + 1) n l

/-- n slots of which these are known. -/
def tm2 (n : Nat) (l : List (Nat × AV)) : List AV := tmFrom2 0 n l

def lmFrom : Nat → Nat → List (Nat × LCell) → List (Option LCell)
  | _, 0, _ => []
  | i, n + 1, l => l.lookup i :: lmFrom (i + 1) n l
def lm2 (n : Nat) (l : List (Nat × LCell)) : List (Option LCell) := lmFrom 0 n l

def vI (n : Int) : AV := .val (.int .i64 n)
def vB (b : Bool) : AV := .val (.bool b)
def vS (s : ByteArray) : AV := .val (.string s)

/-! ### ways into a tree -/
def KT.T : KT → KT
  | .branch _ t _ => t
  | .alt t _ => t
  | .need _ k => k
  | .row _ _ _ k => k
  | .byte _ _ _ k => k
  | .bytes _ _ k => k
  | .prop _ k => k
  | .call _ _ _ _ _ k => k
  | .out t => t
  | .stage t _ => t
  | t => t
def KT.K : KT → St → KT
  | .stage _ k => k
  | _ => fun _ => .fail
def KT.F : KT → KT
  | .branch _ _ f => f
  | .alt _ f => f
  | t => t
def KT.I : KT → Int → KT
  | .exI k, i => k i
  | t, _ => t
def KT.B : KT → Bool → KT
  | .exB k, i => k i
  | t, _ => t
def KT.S : KT → ByteArray → KT
  | .exS k, i => k i
  | t, _ => t
def KT.R : KT → List (List AV) → KT
  | .exR k, i => k i
  | t, _ => t
def KT.A : KT → AV → KT
  | .exA k, i => k i
  | t, _ => t
def KT.Y : KT → UInt8 → KT
  | .exY k, i => k i
  | t, _ => t

/-- The state at a loop's head. -/
def KT.atLoop : KT → Option St
  | .loop _ _ _ s _ => some s
  | _ => none

section
variable (P : Program) (cfg : FuncId → FCfg) (rs : TypeId → List KSh) (kc : KC)

def kround (live : Option Nat) (k : AX → St → KT) (x : AX) (s : St) : KT :=
  match x with
  | .normal => kmask live s .done
  | .exit id => .out (k (.exit id) s)
  | .ret => .out (k .ret s)
  | .panic v => .out (k (.panic v) s)

/-- A loop's round, from a state at its head. -/
def KT.round (t : KT) (s : St) : KT :=
  match t with
  | .loop f b x _ k => kcode P cfg rs kc f b x 0 s fun r _ s' => kround (liveAt (cfg f).live b) k r s'
  | _ => .fail
end

section
variable {P : Program} {cfg : FuncId → FCfg} {rs : TypeId → List KSh} {call : CallF} {QD : List (St → Prop)} {QR : CRes → Prop} {kc : KC}

theorem kt_loop {σ : Type} {t : KT} (S : σ → St) (Inv : σ → Prop) (m : σ → Nat) (a0 : σ) (hkc : ∀ QD, KCS P cfg call QD QR kc) (h0 : t.atLoop = some (S a0)) (hi : Inv a0)
    (hr : ∀ a, Inv a → (t.round P cfg rs kc (S a)).wp P cfg call ((fun s => ∃ a', (Inv a' ∧ m a' < m a) ∧ s = S a') :: QD) QR) : t.wp P cfg call QD QR := by
  cases t with
  | loop f b x s k =>
    simp only [KT.atLoop, Option.some.injEq] at h0
    intro s1 hs1
    refine WC_loop (fun n s => ∃ a, Inv a ∧ m a = n ∧ s = S a) (m a0) ⟨s, hs1, a0, hi, rfl, h0⟩ ?_
    rintro n s2 ⟨a, ha, rfl, rfl⟩ K hK
    obtain ⟨r, kn, s3, h1, h2⟩ := kcode_sound hkc (hr a ha)
    refine ⟨r, s3, h1, ?_⟩
    cases r with
    | normal =>
      obtain ⟨s4, h3, h4⟩ := kmask_sound h2
      obtain ⟨a', ⟨h5, h6⟩, h7⟩ := h4
      exact hK s3 _ h6 ⟨s4, h3, a', h5, rfl, h7⟩
    | exit id => exact h2
    | ret => exact h2
    | panic v => exact h2
  | _ => cases h0

theorem wp_eq2 {t t' : KT} (h : t = t') (w : t'.wp P cfg call QD QR) : t.wp P cfg call QD QR := h ▸ w
theorem wp_if2 {b : Bool} {t f : KT} (ht : b = true → t.wp P cfg call QD QR) (hf : b = false → f.wp P cfg call QD QR) : (KT.branch b t f).wp P cfg call QD QR := ⟨ht, hf⟩

inductive QLe : List (St → Prop) → List (St → Prop) → Prop
  | nil : QLe [] []
  | cons {Q Q' : St → Prop} {l l'} : (∀ s, Q s → Q' s) → QLe l l' → QLe (Q :: l) (Q' :: l')
theorem QLe.refl : ∀ l, QLe l l
  | [] => .nil
  | _ :: l => .cons (fun _ h => h) (QLe.refl l)

theorem wp_mono2 {QR' : CRes → Prop} (hr : ∀ r, QR r → QR' r) : ∀ {t : KT} {QD QD' : List (St → Prop)}, QLe QD QD' → t.wp P cfg call QD QR → t.wp P cfg call QD' QR' := by
  intro t
  induction t with
  | fail => intro QD QD' hd h; exact h.elim
  | done s =>
    intro QD QD' hd h
    cases hd with
    | nil => exact h.elim
    | cons h1 _ => exact h1 _ h
  | out t ih =>
    intro QD QD' hd h
    cases hd with
    | nil => exact h.elim
    | cons _ h2 => exact ih h2 h
  | ret r => intro QD QD' hd h; exact hr _ h
  | branch b t f iht ihf => intro QD QD' hd h; exact ⟨fun e => iht hd (h.1 e), fun e => ihf hd (h.2 e)⟩
  | need b k ih => intro QD QD' hd h; exact ⟨h.1, ih hd h.2⟩
  | exI k ih => rintro QD QD' hd ⟨i, h⟩; exact ⟨i, ih _ hd h⟩
  | exB k ih => rintro QD QD' hd ⟨i, h⟩; exact ⟨i, ih _ hd h⟩
  | exS k ih => rintro QD QD' hd ⟨i, h⟩; exact ⟨i, ih _ hd h⟩
  | exR k ih => rintro QD QD' hd ⟨i, h⟩; exact ⟨i, ih _ hd h⟩
  | exA k ih => rintro QD QD' hd ⟨i, h⟩; exact ⟨i, ih _ hd h⟩
  | exY k ih => rintro QD QD' hd ⟨i, h⟩; exact ⟨i, ih _ hd h⟩
  | row rows i cells k ih => intro QD QD' hd h; exact ⟨h.1, ih hd h.2⟩
  | byte s i b k ih => intro QD QD' hd h; exact ⟨h.1, ih hd h.2⟩
  | bytes rows s k ih => intro QD QD' hd h; exact ⟨h.1, ih hd h.2⟩
  | prop p k ih => intro QD QD' hd h; exact ⟨h.1, ih hd h.2⟩
  | call g args rm H r k ih => intro QD QD' hd h; exact ⟨h.1, ih hd h.2⟩
  | alt t f iht ihf => intro QD QD' hd h; exact h.imp (iht hd) (ihf hd)
  | stage t k iht ihk => intro QD QD' hd h; exact iht (.cons (fun s h => ihk s hd h) hd) h
  | loop f b x s k ih => intro QD QD' hd h s1 hs; exact WC_mono (h s1 hs) fun r s' h' => ih _ _ hd h'
end

section
variable {P : Program} {cfg : FuncId → FCfg} {call : CallF} {Q : St → Prop} {QD : List (St → Prop)} {QR : CRes → Prop}
theorem wp_need {k : KT} (h : k.wp P cfg call QD QR) : (KT.need true k).wp P cfg call QD QR := ⟨rfl, h⟩
theorem wp_out {k : KT} (h : k.wp P cfg call QD QR) : (KT.out k).wp P cfg call (Q :: QD) QR := h
theorem wp_done {s : St} (h : Q s) : (KT.done s).wp P cfg call (Q :: QD) QR := h
theorem wp_stage {t : KT} {k : St → KT} (h : t.wp P cfg call ((fun s => (k s).wp P cfg call QD QR) :: QD) QR) : (KT.stage t k).wp P cfg call QD QR := h
theorem wp_ret {r : CRes} (h : QR r) : (KT.ret r).wp P cfg call QD QR := h
theorem wp_callI {g : FuncId} {args : List AV} {H : Heap} {k : Int → KT} (hc : ∃ i, call g args .none H = some ⟨.ret (vI i), .none, H⟩) (h : ∀ i, (k i).wp P cfg call QD QR) : (KT.exI fun i => .call g args .none H ⟨.ret (vI i), .none, H⟩ (k i)).wp P cfg call QD QR := by
  obtain ⟨i, hi⟩ := hc
  exact ⟨i, hi, h i⟩
theorem wp_callB2 {g : FuncId} {args : List AV} {H : Heap} {k : Bool → KT} (hc : ∃ i, call g args .none H = some ⟨.ret (vB i), .none, H⟩) (h : ∀ i, (k i).wp P cfg call QD QR) : (KT.exB fun i => .call g args .none H ⟨.ret (vB i), .none, H⟩ (k i)).wp P cfg call QD QR := by
  obtain ⟨i, hi⟩ := hc
  exact ⟨i, hi, h i⟩
end

theorem kw_succ {x : Nat} (h : x < 9223372036854775807) : IntKind.i64.wrap ((x : Int) + 1) = ((x + 1 : Nat) : Int) := by
  rw [IntKind.wrap_i64]; omega
theorem kw_pred {x : Nat} (h : x < 9223372036854775807) : IntKind.i64.wrap (((x + 1 : Nat) : Int) - 1) = (x : Int) := by
  rw [IntKind.wrap_i64]; omega
theorem kw_add {x y : Nat} (h : x + y < 9223372036854775808) : IntKind.i64.wrap ((x : Int) + (y : Int)) = ((x + y : Nat) : Int) := by
  rw [IntKind.wrap_i64]; omega
theorem kmax {a b : Nat} : (if (a : Int) > (b : Int) then (a : Int) else (b : Int)) = ((max b a : Nat) : Int) := by
  split <;> omega
end Go.Eng
