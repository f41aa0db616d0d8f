/- LEX, plain: what a text's tokens are, over lists of bytes. -/
set_option linter.unusedVariables false
set_option linter.unusedSimpArgs false
namespace Go.Lx

def low (c : UInt8) : Bool := decide (97 ≤ c) && decide (c ≤ 122)
def high (c : UInt8) : Bool := decide (65 ≤ c) && decide (c ≤ 90)
def digit (c : UInt8) : Bool := decide (48 ≤ c) && decide (c ≤ 57)
def blank (c : UInt8) : Bool := c == 32 || (c == 9 || (c == 10 || c == 13))
def wordB (c : UInt8) : Bool := low c || (high c || (digit c || c == 95))
def tyvB (c : UInt8) : Bool := low c || digit c

abbrev T := List UInt8

/-- How far bytes of a sort go. -/
def span (p : UInt8 → Bool) : T → Nat
  | [] => 0
  | c :: l => if p c then span p l + 1 else 0

def opens : T → Bool
  | 40 :: 42 :: _ => true
  | _ => false
def closes : T → Bool
  | 42 :: 41 :: _ => true
  | _ => false

/-- Behind a remark, from inside it, d deep: how many bytes. -/
def rem (l : T) (d : Nat) : Option Nat :=
  match l with
  | [] => none
  | c :: r =>
    if opens (c :: r) then (rem (r.drop 1) (d + 1)).map (· + 2)
    else if closes (c :: r) then (if d ≤ 1 then some 2 else (rem (r.drop 1) (d - 1)).map (· + 2))
    else (rem r d).map (· + 1)
termination_by l.length
decreasing_by all_goals (simp; try omega)

theorem rem_nil (d : Nat) : rem [] d = none := by rw [rem]
theorem rem_cons (c : UInt8) (r : T) (d : Nat) : rem (c :: r) d = if opens (c :: r) then (rem (r.drop 1) (d + 1)).map (· + 2)
    else if closes (c :: r) then (if d ≤ 1 then some 2 else (rem (r.drop 1) (d - 1)).map (· + 2)) else (rem r d).map (· + 1) := by rw [rem]

/-- Blanks and remarks: how many bytes; false: a remark does not end. -/
def skp (l : T) : Nat × Bool :=
  match l with
  | [] => (0, true)
  | c :: r =>
    if blank c then ((skp r).1 + 1, (skp r).2)
    else if opens (c :: r) then match rem (c :: r) 0 with
      | none => (0, false)
      | some n => ((skp (r.drop (n - 1))).1 + n, (skp (r.drop (n - 1))).2)
    else (0, true)
termination_by l.length
decreasing_by all_goals (simp; try omega)

theorem skp_nil : skp [] = (0, true) := by rw [skp]
theorem skp_cons (c : UInt8) (r : T) : skp (c :: r) = if blank c then ((skp r).1 + 1, (skp r).2)
    else if opens (c :: r) then match rem (c :: r) 0 with
      | none => (0, false)
      | some n => ((skp (r.drop (n - 1))).1 + n, (skp (r.drop (n - 1))).2)
    else (0, true) := by rw [skp]

/-- The value of digits; none: above 2^63 - 1. -/
def numFrom : Nat → T → Option Nat
  | v, [] => some v
  | v, c :: l => if 10 * v + (c.toNat - 48) ≤ 9223372036854775807 then numFrom (10 * v + (c.toNat - 48)) l else none

def marks : T := [40, 41, 44, 59, 58, 61, 42, 43, 45, 47, 60, 124, 95, 46]
def two : T → Bool
  | 58 :: 62 :: _ => true
  | 61 :: 62 :: _ => true
  | 45 :: 62 :: _ => true
  | _ => false

/-- What a token is: its kind, how long it is, its number. -/
abbrev Tk := Nat × Nat × Nat

variable (res : T → Bool)

/-- The token that begins a text; or the error. -/
def one (l : T) : Except Nat Tk :=
  match l with
  | [] => .error 10
  | c :: r =>
    if low c || high c then
      (if 32 < span wordB (c :: r) then .error 12
       else .ok (if high c then 2 else if res ((c :: r).take (span wordB (c :: r))) then 3 else 1, span wordB (c :: r), 0))
    else if digit c then match numFrom 0 ((c :: r).take (span digit (c :: r))) with
      | none => .error 1
      | some v => .ok (4, span digit (c :: r), v)
    else if c == 39 then
      (if !(r.head?.map low).getD false then .error 10
       else if 32 < span tyvB r + 1 then .error 12
       else .ok (5, span tyvB r + 1, 0))
    else if two (c :: r) then .ok (6, 2, 0)
    else if marks.contains c then .ok (6, 1, 0)
    else .error 10

structure Tok where
  kind : Nat
  text : T
  n : Nat
  at_ : Nat

/-- All tokens, from a place on, so many being there already; or the place and the error. -/
def lx (l : T) (a cnt : Nat) : Except (Nat × Nat) (List Tok) :=
  match (skp l).2 with
  | false => .error (a + (skp l).1, 10)
  | true => match h : l.drop (skp l).1 with
    | [] => .ok []
    | c :: r => match one res (c :: r) with
      | .error e => .error (a + (skp l).1, e)
      | .ok (k, n, v) => if cnt = 1024 then .error (a + (skp l).1, 3) else
          (lx (r.drop (n - 1)) (a + (skp l).1 + n) (cnt + 1)).map (⟨k, (c :: r).take n, v, a + (skp l).1⟩ :: ·)
termination_by l.length
decreasing_by
  have := congrArg List.length h
  simp at this ⊢; omega

theorem lx_eq (l : T) (a cnt : Nat) : lx res l a cnt = match (skp l).2 with
  | false => .error (a + (skp l).1, 10)
  | true => match l.drop (skp l).1 with
    | [] => .ok []
    | c :: r => match one res (c :: r) with
      | .error e => .error (a + (skp l).1, e)
      | .ok (k, n, v) => if cnt = 1024 then .error (a + (skp l).1, 3) else
          (lx res (r.drop (n - 1)) (a + (skp l).1 + n) (cnt + 1)).map (⟨k, (c :: r).take n, v, a + (skp l).1⟩ :: ·) := by
  rw [lx]
  split
  · rfl
  · split
    · rename_i h; rw [h]
    · rename_i h; rw [h]

/-! ### blanks, and what stands behind them -/

theorem drop_pred {α : Type} (c : α) (r : List α) {n : Nat} (h : 0 < n) : r.drop (n - 1) = (c :: r).drop n := by
  cases n with
  | zero => omega
  | succ n => simp

theorem rem_bound : ∀ {l : T} {d n : Nat}, rem l d = some n → 2 ≤ n ∧ n ≤ l.length := by
  intro l
  induction h : l.length using Nat.strongRecOn generalizing l with
  | ind m ih =>
    intro d n hr
    cases l with
    | nil => rw [rem_nil] at hr; cases hr
    | cons c r =>
      rw [rem_cons] at hr
      simp only [List.length_cons] at h ⊢
      split at hr
      · rename_i ho
        rw [Option.map_eq_some_iff] at hr
        obtain ⟨k, hk, rfl⟩ := hr
        have := ih (r.drop 1).length (by simp; omega) rfl hk
        have hl : r ≠ [] := by rintro rfl; simp [opens] at ho
        cases r with
        | nil => exact absurd rfl hl
        | cons x r => simp at this h ⊢; omega
      · split at hr
        · rename_i hc
          have hl : r ≠ [] := by rintro rfl; simp [closes] at hc
          cases r with
          | nil => exact absurd rfl hl
          | cons x r =>
            split at hr
            · simp at hr h ⊢; omega
            · rw [Option.map_eq_some_iff] at hr
              obtain ⟨k, hk, rfl⟩ := hr
              have := ih ((x :: r).drop 1).length (by simp at h ⊢; omega) rfl hk
              simp at this h ⊢; omega
        · rw [Option.map_eq_some_iff] at hr
          obtain ⟨k, hk, rfl⟩ := hr
          have := ih r.length (by omega) rfl hk
          omega

theorem opens_two {x y : T} (h : 2 ≤ x.length) : opens (x ++ y) = opens x := by
  match x, h with
  | a :: b :: r, _ =>
    by_cases h1 : a = 40
    · by_cases h2 : b = 42
      · subst h1 h2; rfl
      · subst h1
        have e1 : ∀ z, opens (40 :: b :: z) = false := fun z => by unfold opens; split <;> simp_all
        simp [e1]
    · have e1 : ∀ z, opens (a :: z) = false := fun z => by unfold opens; split <;> simp_all
      simp [e1]
theorem closes_two {x y : T} (h : 2 ≤ x.length) : closes (x ++ y) = closes x := by
  match x, h with
  | a :: b :: r, _ =>
    by_cases h1 : a = 42
    · by_cases h2 : b = 41
      · subst h1 h2; rfl
      · subst h1
        have e1 : ∀ z, closes (42 :: b :: z) = false := fun z => by unfold closes; split <;> simp_all
        simp [e1]
    · have e1 : ∀ z, closes (a :: z) = false := fun z => by unfold closes; split <;> simp_all
      simp [e1]

/-- A remark that ends within a text ends there, whatever follows. -/
theorem rem_cut : ∀ {x : T} {y : T} {d n : Nat}, rem (x ++ y) d = some n → n ≤ x.length → ∀ z, rem (x ++ z) d = some n := by
  intro x
  induction h : x.length using Nat.strongRecOn generalizing x with
  | ind m ih =>
    intro y d n hr hn z
    have hb := rem_bound hr
    match x, h with
    | [], h => simp at h; omega
    | [c], h => simp at h; omega
    | c :: b :: r, h =>
      have hx : 2 ≤ (c :: b :: r).length := by simp
      have o1 : opens (c :: (b :: r ++ y)) = opens (c :: b :: r) := opens_two (x := c :: b :: r) hx
      have o2 : opens (c :: (b :: r ++ z)) = opens (c :: b :: r) := opens_two (x := c :: b :: r) hx
      have c1 : closes (c :: (b :: r ++ y)) = closes (c :: b :: r) := closes_two (x := c :: b :: r) hx
      have c2 : closes (c :: (b :: r ++ z)) = closes (c :: b :: r) := closes_two (x := c :: b :: r) hx
      rw [List.cons_append, rem_cons, o1, c1] at hr
      rw [List.cons_append, rem_cons, o2, c2]
      simp only [List.length_cons] at h hn
      split at hr
      · rename_i hop
        rw [if_pos hop]
        rw [Option.map_eq_some_iff] at hr ⊢
        obtain ⟨k, hk, rfl⟩ := hr
        exact ⟨k, ih r.length (by omega) rfl hk (by omega) z, rfl⟩
      · rename_i hop
        rw [if_neg hop]
        split at hr
        · rename_i hcl
          rw [if_pos hcl]
          split at hr
          · rename_i hd; rw [if_pos hd]; exact hr
          · rename_i hd
            rw [if_neg hd]
            rw [Option.map_eq_some_iff] at hr ⊢
            obtain ⟨k, hk, rfl⟩ := hr
            exact ⟨k, ih r.length (by omega) rfl hk (by omega) z, rfl⟩
        · rename_i hcl
          rw [if_neg hcl]
          rw [Option.map_eq_some_iff] at hr ⊢
          obtain ⟨k, hk, rfl⟩ := hr
          exact ⟨k, ih (b :: r).length (by simp; omega) rfl hk (by simp; omega) z, rfl⟩

/-- Blanks and remarks that end. -/
def Blk (x : T) : Prop := ∀ z, skp (x ++ z) = (x.length + (skp z).1, (skp z).2)

theorem Blk.nil : Blk [] := fun z => by simp
theorem Blk.append {x y : T} (h : Blk x) (k : Blk y) : Blk (x ++ y) := fun z => by
  rw [List.append_assoc, h, k]; simp; omega
theorem Blk.cons {c : UInt8} {x : T} (hc : blank c = true) (h : Blk x) : Blk (c :: x) := fun z => by
  rw [List.cons_append, skp_cons, if_pos hc, h]; simp; omega
theorem Blk.lx {x : T} (h : Blk x) (res : T → Bool) (a cnt : Nat) : lx res x a cnt = .ok [] := by
  have := h []
  rw [List.append_nil, skp_nil] at this
  rw [lx_eq, this]
  simp
theorem Blk.remark {x : T} (hb : ∀ c, x.head? = some c → blank c = false) (ho : opens x = true) (hr : rem x 0 = some x.length) : Blk x := fun z => by
  cases x with
  | nil => simp [opens] at ho
  | cons c r =>
    have hc : blank c = false := hb c rfl
    have h2 := rem_bound hr
    have o2 : opens (c :: (r ++ z)) = true := by rw [← List.cons_append, opens_two h2.1]; exact ho
    have hr' : rem ((c :: r) ++ z) 0 = some (c :: r).length := rem_cut (y := []) (by simpa using hr) (Nat.le_refl _) z
    have e : rem (c :: (r ++ z)) 0 = some (c :: r).length := hr'
    rw [List.cons_append, skp_cons, hc, o2, e]
    simp
    omega

theorem skp_bound : ∀ {l : T}, (skp l).1 ≤ l.length := by
  intro l
  induction h : l.length using Nat.strongRecOn generalizing l with
  | ind m ih =>
    cases l with
    | nil => rw [skp_nil]; simp
    | cons c r =>
      simp only [List.length_cons] at h
      rw [skp_cons]
      split
      · have := ih r.length (by omega) rfl; simp; omega
      · split
        · split
          · simp
          · rename_i n hn
            have h2 := rem_bound hn
            have := ih (r.drop (n - 1)).length (by simp; omega) rfl
            simp at this h2 ⊢; omega
        · simp

/-- What was gone over is blanks. -/
theorem skp_blk : ∀ {l : T}, Blk (l.take (skp l).1) := by
  intro l
  induction h : l.length using Nat.strongRecOn generalizing l with
  | ind m ih =>
    cases l with
    | nil => rw [skp_nil]; exact .nil
    | cons c r =>
      simp only [List.length_cons] at h
      rw [skp_cons]
      split
      · rename_i hc
        simp only [List.take_succ_cons]
        exact .cons hc (ih r.length (by omega) rfl)
      · rename_i hc
        split
        · rename_i ho
          split
          · exact .nil
          · rename_i n hn
            have h2 := rem_bound hn
            have hk := ih (r.drop (n - 1)).length (by simp; omega) rfl
            rw [drop_pred c r (by omega)] at hk ⊢
            simp only
            rw [Nat.add_comm, List.take_add]
            refine .append (.remark ?_ ?_ ?_) hk
            · intro x hx
              have : x = c := by
                cases n with
                | zero => omega
                | succ n => simpa using hx.symm
              subst this; simpa using hc
            · have := opens_two (x := (c :: r).take n) (y := (c :: r).drop n) (by rw [List.length_take]; omega)
              rw [List.take_append_drop] at this; rw [← this]; exact ho
            · have := rem_cut (x := (c :: r).take n) (y := (c :: r).drop n) (d := 0) (n := n) (by rw [List.take_append_drop]; exact hn) (by rw [List.length_take]; omega) []
              rw [List.append_nil] at this; rw [this, List.length_take]; congr 1; omega
        · exact .nil

/-- Behind blanks: the end, or what is no blank and begins no remark. -/
theorem skp_stop : ∀ {l : T}, (skp l).2 = true → ∀ {c r}, l.drop (skp l).1 = c :: r → blank c = false ∧ opens (c :: r) = false := by
  intro l
  induction h : l.length using Nat.strongRecOn generalizing l with
  | ind m ih =>
    cases l with
    | nil => rw [skp_nil]; intro _ c r h; simp at h
    | cons x r =>
      simp only [List.length_cons] at h
      rw [skp_cons]
      split
      · intro h2 c q hd
        simp only [List.drop_succ_cons] at hd
        exact ih r.length (by omega) rfl h2 hd
      · rename_i hb
        split
        · split
          · intro h2; cases h2
          · rename_i n hn
            have h2 := rem_bound hn
            intro h3 c q hd
            rw [Nat.add_comm, ← List.drop_drop, ← drop_pred x r (by omega)] at hd
            exact ih (r.drop (n - 1)).length (by simp; omega) rfl h3 hd
        · rename_i ho
          intro _ c q hd
          simp at hd
          obtain ⟨rfl, rfl⟩ := hd
          exact ⟨by simpa using hb, by simpa using ho⟩

theorem skp_none {c : UInt8} {r : T} (hb : blank c = false) (ho : opens (c :: r) = false) : skp (c :: r) = (0, true) := by
  rw [skp_cons, hb, ho]; simp

end Go.Lx
