/- LEX, plain: more of texts in pieces: places, joined tokens. -/
import Derived.Test.YtnohjjhgdkpgcaaDoorP3
import Derived.Lib.Join
set_option linter.unusedVariables false
set_option linter.unusedSimpArgs false
namespace Go.Lx
variable {res : T → Bool}

theorem Pieces.places {l : T} {a : Nat} {ts : List Tok} (h : Pieces res l a ts) : ∀ t ∈ ts, a ≤ t.at_ ∧ t.at_ + t.text.length ≤ a + l.length := by
  induction h with
  | nil _ => intro t h; cases h
  | @cons b x l a k v ts hb h1 hh ho _ ih =>
    intro t ht
    rw [List.mem_cons] at ht
    rcases ht with rfl | ht
    · simp; omega
    · have := ih t ht
      simp; omega

theorem join_cons2 (x y : T) (r : List T) : Lib.join (x :: y :: r) [32] = x ++ (32 :: Lib.join (y :: r) [32]) := by
  simp [Lib.join, List.intercalate, List.intersperse]

theorem Pieces.join_len {l : T} {a : Nat} {ts : List Tok} (h : Pieces res l a ts) : (Lib.join (ts.map (·.text)) [32]).length ≤ l.length + ts.length := by
  induction h with
  | nil _ => simp [Lib.join, List.intercalate]
  | @cons b x l a k v ts hb h1 hh ho _ ih =>
    cases ts with
    | nil => simp [Lib.join, List.intercalate]; omega
    | cons u us =>
      simp only [List.map_cons] at ih ⊢
      rw [join_cons2]
      simp at ih ⊢; omega

theorem Pieces.join {l : T} {a : Nat} {ts : List Tok} (h : Pieces res l a ts) : ∀ b, ∃ us, Pieces res (Lib.join (ts.map (·.text)) [32]) b us ∧ us.map key = ts.map key := by
  induction h with
  | nil _ => intro b; exact ⟨[], .nil (by rw [List.map_nil]; exact Blk.nil), rfl⟩
  | @cons b x l a k v ts hb h1 hh ho _ ih =>
    intro c
    cases ts with
    | nil =>
      have hc : Ctx l [] := .inl rfl
      have hht := head_tok (z := []) h1 hh
      have := Pieces.cons (res := res) (b := []) (a := c) Blk.nil (one_ctx h1 hc) hht.1 (opens_ctx hht.2 ho hc) (Pieces.nil Blk.nil)
      refine ⟨[⟨k, x, v, c + ([] : T).length⟩], ?_, ?_⟩
      · simpa [Lib.join, List.intercalate] using this
      · simp [key]
    | cons u us =>
      simp only [List.map_cons] at ih ⊢
      rw [join_cons2]
      obtain ⟨vs, q1, q2⟩ := ih (c + x.length + 1)
      have q3 : Pieces res (32 :: Lib.join (u.text :: us.map (·.text)) [32]) (c + x.length) vs := Pieces.blk (b := [32]) (Blk.cons (by decide) Blk.nil) q1
      have hc : Ctx l (32 :: Lib.join (u.text :: us.map (·.text)) [32]) := .inl rfl
      have hht := head_tok (z := 32 :: Lib.join (u.text :: us.map (·.text)) [32]) h1 hh
      have := Pieces.cons (res := res) (b := []) (a := c) Blk.nil (one_ctx h1 hc) hht.1 (opens_ctx hht.2 ho hc) (by simpa using q3)
      exact ⟨_, by simpa using this, by simp [key, q2]⟩

theorem one_err {l : T} {e : Nat} (h : one res l = .error e) : e ≠ 0 := by
  cases l with
  | nil => simp [one] at h; omega
  | cons c r =>
    unfold one at h
    simp only at h
    repeat' split at h
    all_goals (first | (injection h with h; omega) | cases h)
theorem lx_err : ∀ {l : T} {a cnt p e : Nat}, lx res l a cnt = .error (p, e) → e ≠ 0 ∧ p ≤ a + l.length := by
  intro l
  induction h : l.length using Nat.strongRecOn generalizing l with
  | ind m ih =>
    intro a cnt p e hl
    have hsb := skp_bound (l := l)
    rw [lx_eq] at hl
    split at hl
    · injection hl with hl; injection hl with h1 h2; omega
    · split at hl
      · cases hl
      · rename_i c r hd
        have hlen := congrArg List.length hd
        simp at hlen
        split at hl
        · rename_i e' h1
          injection hl with hl; injection hl with h2 h3
          have := one_err h1
          subst h3; exact ⟨this, by omega⟩
        · rename_i k n v h1
          split at hl
          · injection hl with hl; injection hl with h1 h2; omega
          · obtain ⟨b1, b2, _⟩ := one_bound h1
            simp only [List.length_cons] at b2
            cases hx : lx res (r.drop (n - 1)) (a + (skp l).1 + n) (cnt + 1) with
            | ok us => rw [hx] at hl; cases hl
            | error q =>
              obtain ⟨q1, q2⟩ := q
              rw [hx] at hl
              injection hl with hl; injection hl with h2 h3
              subst h2 h3
              have := ih (r.drop (n - 1)).length (by simp; omega) rfl hx
              simp at this; exact ⟨this.1, by omega⟩
end Go.Lx
