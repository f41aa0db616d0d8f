/- LEX, plain: a text in pieces: blanks, a token, blanks, a token .. -/
import Derived.Test.YtnohjjhgdkpgcaaDoorP1
set_option linter.unusedVariables false
set_option linter.unusedSimpArgs false
namespace Go.Lx

def sep : T → Bool
  | [] => true
  | c :: _ => blank c

theorem span_le (p : UInt8 → Bool) : ∀ l : T, span p l ≤ l.length
  | [] => Nat.le_refl _
  | c :: l => by
    unfold span
    split
    · have := span_le p l; simp; omega
    · simp

theorem span_append (p : UInt8 → Bool) : ∀ (x y : T), span p (x ++ y) = if span p x = x.length then x.length + span p y else span p x
  | [], y => by simp [span]
  | c :: x, y => by
    simp only [List.cons_append, span]
    have h := span_append p x y
    have h2 := span_le p x
    split
    · rw [h]
      by_cases e : span p x = x.length
      · simp [e]; omega
      · have : span p x + 1 ≠ (c :: x).length := by simpa using e
        simp [e]
    · simp

theorem span_zero {p : UInt8 → Bool} {y : T} (h : ∀ c, y.head? = some c → p c = false) : span p y = 0 := by
  cases y with
  | nil => rfl
  | cons c y => simp [span, h c rfl]
theorem span_head {p : UInt8 → Bool} {y : T} (h : span p y = 0) : ∀ c, y.head? = some c → p c = false := by
  cases y with
  | nil => intro c h; cases h
  | cons c y =>
    intro d hd
    simp at hd; subst hd
    simp only [span] at h
    cases hp : p c
    · rfl
    · rw [hp] at h; simp at h

/-- What may stand behind a token instead of what does. -/
def Ctx (y z : T) : Prop := sep z = true ∨ z.head? = y.head?

theorem sep_head {z : T} (h : sep z = true) {c : UInt8} (hc : z.head? = some c) : blank c = true := by
  cases z with
  | nil => cases hc
  | cons d z => simp at hc; subst hc; exact h

theorem span_ctx {p : UInt8 → Bool} (hp : ∀ c, blank c = true → p c = false) {x y z : T} (h : span p (x ++ y) = x.length) (hz : Ctx y z) : span p (x ++ z) = x.length := by
  have h1 := span_append p x y
  rw [h] at h1
  have hx : span p x = x.length ∧ span p y = 0 := by
    split at h1
    · rename_i e; exact ⟨e, by omega⟩
    · exact ⟨h1.symm, absurd h1.symm (by assumption)⟩
  rw [span_append, if_pos hx.1, span_zero (p := p) (y := z)]
  · rfl
  · intro c hc
    rcases hz with hz | hz
    · exact hp c (sep_head hz hc)
    · exact span_head hx.2 c (hz ▸ hc)

theorem blank_cases {c : UInt8} (h : blank c = true) : c = 32 ∨ c = 9 ∨ c = 10 ∨ c = 13 := by
  simp only [blank, Bool.or_eq_true, beq_iff_eq] at h
  exact h
theorem blank_word {c : UInt8} (h : blank c = true) : wordB c = false := by
  rcases blank_cases h with rfl | rfl | rfl | rfl <;> decide
theorem blank_digit {c : UInt8} (h : blank c = true) : digit c = false := by
  rcases blank_cases h with rfl | rfl | rfl | rfl <;> decide
theorem blank_tyv {c : UInt8} (h : blank c = true) : tyvB c = false := by
  rcases blank_cases h with rfl | rfl | rfl | rfl <;> decide
theorem blank_62 {c : UInt8} (h : blank c = true) : c ≠ 62 ∧ c ≠ 42 := by
  rcases blank_cases h with rfl | rfl | rfl | rfl <;> decide

def oneMark (c : UInt8) : Bool := c == 58 || (c == 61 || c == 45)
theorem two_eq (c : UInt8) (r : T) : two (c :: r) = (oneMark c && (r.head? == some 62)) := by
  cases r with
  | nil => unfold two; simp
  | cons d r =>
    by_cases h1 : c = 58
    · subst h1
      by_cases h2 : d = 62
      · subst h2; simp [two, oneMark]
      · unfold two; simp [h2, oneMark]
    · by_cases h3 : c = 61
      · subst h3
        by_cases h2 : d = 62
        · subst h2; simp [two, oneMark]
        · unfold two; simp [h2, oneMark]
      · by_cases h4 : c = 45
        · subst h4
          by_cases h2 : d = 62
          · subst h2; simp [two, oneMark]
          · unfold two; simp [h2, oneMark]
        · unfold two; simp [h1, h3, h4, oneMark]
theorem opens_eq (c : UInt8) (r : T) : opens (c :: r) = (c == 40 && (r.head? == some 42)) := by
  cases r with
  | nil => unfold opens; simp
  | cons d r =>
    by_cases h1 : c = 40
    · subst h1
      by_cases h2 : d = 42
      · subst h2; simp [opens]
      · unfold opens; simp [h2]
    · unfold opens; simp [h1]

theorem two_ctx {c : UInt8} {y z : T} (h : two (c :: y) = false) (hz : Ctx y z) : two (c :: z) = false := by
  rw [two_eq] at h ⊢
  rcases hz with hz | hz
  · cases hm : z.head? with
    | none => simp
    | some d => have := blank_62 (sep_head hz hm); simp [this.1]
  · rw [hz]; exact h
theorem opens_ctx {x y z : T} (hx : x ≠ []) (h : opens (x ++ y) = false) (hz : Ctx y z) : opens (x ++ z) = false := by
  match x, hx with
  | [c], _ =>
    simp only [List.cons_append, List.nil_append] at h ⊢
    rw [opens_eq] at h ⊢
    rcases hz with hz | hz
    · cases hm : z.head? with
      | none => simp
      | some d => have := blank_62 (sep_head hz hm); simp [this.2]
    · rw [hz]; exact h
  | c :: d :: r, _ => rw [opens_two (by simp)] at h ⊢; exact h

variable {res : T → Bool}

theorem one_bound {l : T} {k n v : Nat} (h : one res l = .ok (k, n, v)) : 1 ≤ n ∧ n ≤ l.length ∧ 1 ≤ k ∧ k ≤ 6 ∧ (k ≠ 4 → v = 0) := by
  cases l with
  | nil => simp [one] at h
  | cons c r =>
    unfold one at h
    simp only at h
    split at h
    · rename_i hc
      split at h
      · cases h
      · injection h with h; injection h with h1 h; injection h with h2 h3
        subst h1 h2 h3
        have hw : wordB c = true := by unfold wordB; rw [Bool.or_eq_true] at hc; rcases hc with hc | hc <;> simp [hc]
        have h1 : span wordB (c :: r) = span wordB r + 1 := by simp [span, hw]
        have h2 := span_le wordB (c :: r)
        refine ⟨by omega, h2, ?_, ?_, fun _ => rfl⟩ <;> (split <;> (try split) <;> omega)
    · split at h
      · rename_i hc
        split at h
        · cases h
        · injection h with h; injection h with h1 h; injection h with h2 h3
          subst h1 h2 h3
          have h1 : span digit (c :: r) = span digit r + 1 := by simp [span, hc]
          have h2 := span_le digit (c :: r)
          exact ⟨by omega, h2, by omega, by omega, fun h => absurd rfl h⟩
      · split at h
        · split at h
          · cases h
          · split at h
            · cases h
            · injection h with h; injection h with h1 h; injection h with h2 h3
              subst h1 h2 h3
              have h2 := span_le tyvB r
              exact ⟨by omega, by simp; omega, by omega, by omega, fun _ => rfl⟩
        · split at h
          · rename_i ht
            injection h with h; injection h with h1 h; injection h with h2 h3
            subst h1 h2 h3
            rw [two_eq] at ht
            cases r with
            | nil => simp at ht
            | cons d r => simp
          · split at h
            · injection h with h; injection h with h1 h; injection h with h2 h3
              subst h1 h2 h3
              simp
            · cases h

/-- A token does not look farther than at the next byte. -/
theorem one_ctx {x y z : T} {k v : Nat} (h : one res (x ++ y) = .ok (k, x.length, v)) (hz : Ctx y z) : one res (x ++ z) = .ok (k, x.length, v) := by
  cases x with
  | nil => have := (one_bound h).1; simp at this
  | cons c x =>
    rw [List.cons_append] at h ⊢
    unfold one at h ⊢
    simp only at h ⊢
    split at h
    · rename_i hc
      rw [if_pos hc]
      split at h
      · cases h
      · rename_i h32
        injection h with h; injection h with h1 h; injection h with h2 h3
        have e1 : span wordB (c :: (x ++ y)) = (c :: x).length := h2
        have e2 : span wordB (c :: (x ++ z)) = (c :: x).length := span_ctx (x := c :: x) (fun _ => blank_word) e1 hz
        have t1 : ∀ q : T, (c :: (x ++ q)).take (c :: x).length = c :: x := fun q => by rw [← List.cons_append]; simp
        rw [e1, t1] at h1
        rw [e1] at h32
        rw [e2, t1, if_neg h32, h1, h3]
    · rename_i hc
      rw [if_neg hc]
      split at h
      · rename_i hd
        rw [if_pos hd]
        split at h
        · cases h
        · rename_i u hu
          injection h with h; injection h with h1 h; injection h with h2 h3
          have e1 : span digit (c :: (x ++ y)) = (c :: x).length := h2
          have e2 : span digit (c :: (x ++ z)) = (c :: x).length := span_ctx (x := c :: x) (fun _ => blank_digit) e1 hz
          have t1 : ∀ q : T, (c :: (x ++ q)).take (c :: x).length = c :: x := fun q => by rw [← List.cons_append]; simp
          rw [e1, t1] at hu
          rw [e2, t1, hu]
          simp [h1, h3]
      · rename_i hd
        rw [if_neg hd]
        split at h
        · rename_i hq
          rw [if_pos hq]
          split at h
          · cases h
          · rename_i hl
            split at h
            · cases h
            · rename_i h32
              injection h with h; injection h with h1 h; injection h with h2 h3
              have e1 : span tyvB (x ++ y) = x.length := by simpa using h2
              have e2 : span tyvB (x ++ z) = x.length := span_ctx (fun _ => blank_tyv) e1 hz
              have hxn : x ≠ [] := by
                rintro rfl
                simp only [List.nil_append, List.length_nil] at e1 hl
                have := span_head e1
                cases y with
                | nil => simp at hl
                | cons d y =>
                  simp at hl
                  have := this d rfl
                  simp [tyvB, hl] at this
              have hh : ∀ q : T, (x ++ q).head? = x.head? := fun q => by cases x with | nil => exact absurd rfl hxn | cons => rfl
              rw [hh] at hl
              rw [hh, if_neg hl, e2]
              rw [e1] at h32
              rw [if_neg h32]
              simp [h1, h3]
        · rename_i hq
          rw [if_neg hq]
          split at h
          · rename_i ht
            injection h with h; injection h with h1 h; injection h with h2 h3
            match x, h2 with
            | [d], _ =>
              have : two (c :: ([d] ++ z)) = two (c :: ([d] ++ y)) := by rw [two_eq, two_eq]; simp
              rw [if_pos (this.trans ht)]
              simp [h1, h3]
          · rename_i ht
            split at h
            · rename_i hm
              injection h with h; injection h with h1 h; injection h with h2 h3
              match x, h2 with
              | [], _ =>
                simp only [List.nil_append] at ht ⊢
                have := two_ctx (Bool.eq_false_iff.2 ht) hz
                rw [if_neg (by rw [this]; decide), if_pos hm]
                simp [h1, h3]
            · cases h

variable (res)
/-- A text in pieces. -/
inductive Pieces : T → Nat → List Tok → Prop
  | nil {l a} : Blk l → Pieces l a []
  | cons {b x l : T} {a k v : Nat} {ts : List Tok} : Blk b → one res (x ++ l) = .ok (k, x.length, v) → (∀ c, (x ++ l).head? = some c → blank c = false) → opens (x ++ l) = false →
      Pieces l (a + b.length + x.length) ts → Pieces (b ++ (x ++ l)) a (⟨k, x, v, a + b.length⟩ :: ts)
variable {res}

theorem lx_pieces : ∀ {l : T} {a cnt : Nat} {ts : List Tok}, cnt ≤ 1024 → lx res l a cnt = .ok ts → Pieces res l a ts ∧ cnt + ts.length ≤ 1024 := by
  intro l
  induction h : l.length using Nat.strongRecOn generalizing l with
  | ind m ih =>
    intro a cnt ts hc hl
    rw [lx_eq] at hl
    split at hl
    · cases hl
    · rename_i hs
      have hsb := skp_bound (l := l)
      have hblk := skp_blk (l := l)
      split at hl
      · rename_i hd
        injection hl with hl; subst hl
        rw [List.drop_eq_nil_iff] at hd
        rw [List.take_of_length_le hd] at hblk
        exact ⟨.nil hblk, by simpa using hc⟩
      · rename_i c r hd
        obtain ⟨hb, ho⟩ := skp_stop hs hd
        split at hl
        · cases hl
        · rename_i k n v h1
          split at hl
          · cases hl
          · rename_i hcn
            obtain ⟨b1, b2, _⟩ := one_bound h1
            cases hx : lx res (r.drop (n - 1)) (a + (skp l).1 + n) (cnt + 1) with
            | error e => rw [hx] at hl; cases hl
            | ok us =>
              rw [hx] at hl
              injection hl with hl; subst hl
              have hlen := congrArg List.length hd
              simp at hlen
              obtain ⟨q1, q2⟩ := ih (r.drop (n - 1)).length (by simp; omega) rfl (by omega) hx
              refine ⟨?_, by simp; omega⟩
              rw [drop_pred c r (by omega)] at q1
              have e1 : ((c :: r).take n).length = n := by rw [List.length_take]; omega
              have e2 : (l.take (skp l).1).length = (skp l).1 := by rw [List.length_take]; omega
              have e3 : (c :: r).take n ++ (c :: r).drop n = c :: r := List.take_append_drop ..
              have := Pieces.cons (res := res) (b := l.take (skp l).1) (x := (c :: r).take n) (l := (c :: r).drop n) (a := a) (k := k) (v := v) (ts := us) hblk
                (by rw [e3, e1]; exact h1) (by rw [e3]; intro d hd2; simp at hd2; subst hd2; exact hb) (by rw [e3]; exact ho) (by rw [e1, e2]; exact q1)
              rw [e3, e2] at this
              rw [← hd, List.take_append_drop, hd] at this
              exact this

theorem pieces_lx : ∀ {l : T} {a : Nat} {ts : List Tok}, Pieces res l a ts → ∀ {cnt : Nat}, cnt + ts.length ≤ 1024 → lx res l a cnt = .ok ts := by
  intro l a ts h
  induction h with
  | nil hb => intro cnt _; exact hb.lx ..
  | @cons b x l a k v ts hb h1 hh ho _ ih =>
    intro cnt hc
    simp only [List.length_cons] at hc
    obtain ⟨b1, b2, _⟩ := one_bound h1
    cases hx : x ++ l with
    | nil => have := congrArg List.length hx; simp at this b1; rw [this.1] at b1; simp at b1
    | cons c r =>
      rw [hx] at h1 hh ho
      have hs : skp (b ++ (c :: r)) = (b.length, true) := by rw [hb, skp_none (hh c rfl) ho]; simp
      have hdr : (b ++ (c :: r)).drop b.length = c :: r := by simp
      have hr : r.drop (x.length - 1) = l := by rw [drop_pred c r b1, ← hx]; simp
      have ht : (c :: r).take x.length = x := by rw [← hx]; simp
      rw [lx_eq, hs]
      simp only [hdr, h1]
      rw [if_neg (by omega), hr, ih (by omega), ht]
      rfl

theorem Pieces.blk {b m : T} {a : Nat} {ts : List Tok} (hb : Blk b) (h : Pieces res m (a + b.length) ts) : Pieces res (b ++ m) a ts := by
  cases h with
  | nil hm => exact .nil (hb.append hm)
  | @cons b2 x l _ k v ts h2 h1 hh ho hr =>
    have := Pieces.cons (res := res) (a := a) (b := b ++ b2) (hb.append h2) h1 hh ho (by rw [List.length_append, ← Nat.add_assoc]; exact hr)
    rw [List.append_assoc, List.length_append, ← Nat.add_assoc] at this
    exact this

theorem head_append {l m : T} (hm : sep m = true) : Ctx l (l ++ m) := by
  cases l with
  | nil => exact .inl hm
  | cons c l => exact .inr rfl

theorem head_tok {x l z : T} {k v : Nat} (h1 : one res (x ++ l) = .ok (k, x.length, v)) (hh : ∀ c, (x ++ l).head? = some c → blank c = false) : (∀ c, (x ++ z).head? = some c → blank c = false) ∧ x ≠ [] := by
  cases x with
  | nil => have := (one_bound h1).1; simp at this
  | cons d x => exact ⟨fun c hc => hh c hc, by simp⟩

/-- Two texts one behind the other, where the second begins with a blank. -/
theorem Pieces.append {l m : T} {a : Nat} {ts us : List Tok} (h : Pieces res l a ts) (hs : sep m = true) (k : Pieces res m (a + l.length) us) : Pieces res (l ++ m) a (ts ++ us) := by
  induction h with
  | nil hb => exact k.blk hb
  | @cons b x l a kk v ts hb h1 hh ho _ ih =>
    have hc := head_append (l := l) hs
    have := ih (by rw [List.length_append, List.length_append, ← Nat.add_assoc, ← Nat.add_assoc] at k; exact k)
    have hht := head_tok (z := l ++ m) h1 hh
    have r := Pieces.cons hb (one_ctx h1 hc) hht.1 (opens_ctx hht.2 ho hc) this
    simpa [List.append_assoc] using r

def key (t : Tok) : Nat × T × Nat := (t.kind, t.text, t.n)

/-- Tokens stand elsewhere, where their text does. -/
theorem Pieces.shift {l : T} {a : Nat} {ts : List Tok} (h : Pieces res l a ts) (b : Nat) : ∃ us, Pieces res l b us ∧ us.map key = ts.map key := by
  induction h generalizing b with
  | nil hb => exact ⟨[], .nil hb, rfl⟩
  | @cons bb x l a kk v ts hb h1 hh ho _ ih =>
    obtain ⟨us, q1, q2⟩ := ih (b + bb.length + x.length)
    exact ⟨_, .cons hb h1 hh ho q1, by simp [key, q2]⟩

/-- Blanks put ahead of a token, and at the end. -/
theorem Pieces.put {l : T} {a : Nat} {ts : List Tok} (h : Pieces res l a ts) {p : T} (hp : Blk p) (hs : sep p = true) (hne : p ≠ []) : ∀ {i : Nat} {t : Tok}, ts[i]? = some t →
    ∃ us, Pieces res (l.take (t.at_ - a) ++ (p ++ (l.drop (t.at_ - a) ++ p))) a us ∧ us.map key = ts.map key ∧ a ≤ t.at_ := by
  induction h with
  | nil hb => intro i t h; simp at h
  | @cons b x l a k v ts hb h1 hh ho hr ih =>
    intro i t hi
    have hend : ∀ {m : T} {n : Nat} {vs : List Tok}, Pieces res m n vs → Pieces res (m ++ p) n vs := fun {m n vs} hm => by
      have := hm.append hs (Pieces.nil (res := res) (a := n + m.length) hp)
      rwa [List.append_nil] at this
    cases i with
    | zero =>
      simp at hi; subst hi
      obtain ⟨us, q1, q2⟩ := (hend (Pieces.cons (b := []) (a := 0) .nil h1 hh ho (by simpa using (hr.shift _).choose_spec.1))).shift (a + b.length + p.length)
      refine ⟨us, ?_, ?_, by simp⟩
      · have e1 : (b ++ (x ++ l)).take (a + b.length - a) = b := by rw [Nat.add_sub_cancel_left]; simp
        have e2 : (b ++ (x ++ l)).drop (a + b.length - a) = x ++ l := by rw [Nat.add_sub_cancel_left]; simp
        simp only [e1, e2]
        exact (Pieces.blk hp (by simpa using q1)).blk hb
      · rw [q2]
        have := (hr.shift (0 + b.length)).choose_spec
        simp only [List.map_cons, List.cons.injEq]
        refine ⟨rfl, ?_⟩
        exact (hr.shift _).choose_spec.2
    | succ i =>
      simp only [List.getElem?_cons_succ] at hi
      obtain ⟨us, q1, q2, q3⟩ := ih hi
      obtain ⟨d, hd⟩ : ∃ d, t.at_ = a + b.length + x.length + d := ⟨t.at_ - (a + b.length + x.length), by omega⟩
      have e0 : t.at_ - (a + b.length + x.length) = d := by omega
      rw [e0] at q1
      have e1 : t.at_ - a = (b ++ x).length + d := by simp; omega
      have f1 : (b ++ (x ++ l)).take (t.at_ - a) = b ++ (x ++ l.take d) := by rw [e1, ← List.append_assoc, List.take_length_add_append, List.append_assoc]
      have f2 : (b ++ (x ++ l)).drop (t.at_ - a) = l.drop d := by rw [e1, ← List.append_assoc, List.drop_length_add_append]
      have hc : Ctx l (l.take d ++ (p ++ (l.drop d ++ p))) := by
        cases d with
        | zero =>
          left
          cases p with
          | nil => exact absurd rfl hne
          | cons c p => exact hs
        | succ d =>
          cases l with
          | nil => left; cases p with
            | nil => rfl
            | cons c p => exact hs
          | cons c l => right; rfl
      have hht := head_tok (z := l.take d ++ (p ++ (l.drop d ++ p))) h1 hh
      have r := Pieces.cons hb (one_ctx h1 hc) hht.1 (opens_ctx hht.2 ho hc) q1
      refine ⟨⟨k, x, v, a + b.length⟩ :: us, ?_, ?_, by omega⟩
      · rw [f1, f2]
        simpa [List.append_assoc] using r
      · simp [key, q2]

end Go.Lx
