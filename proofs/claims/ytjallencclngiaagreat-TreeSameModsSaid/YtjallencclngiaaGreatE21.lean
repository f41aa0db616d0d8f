/-
  THE ENGINE, part 21: two lists held against each other, member by member, in a loop.
-/
import Derived.Test.YtjallencclngiaaGreatE20
set_option linter.unusedVariables false
set_option linter.unusedSimpArgs false
namespace Go.Eng

def all2 {α β : Type} (R : α → β → Bool) : List α → List β → Bool
  | [], [] => true
  | x :: xs, y :: ys => R x y && all2 R xs ys
  | _, _ => false

theorem all2_len {α β : Type} {R : α → β → Bool} : ∀ {xs : List α} {ys : List β}, xs.length ≠ ys.length → all2 R xs ys = false := by
  intro xs
  induction xs with
  | nil => intro ys h; cases ys with
    | nil => exact absurd rfl h
    | cons y ys => rfl
  | cons x xs ih => intro ys h; cases ys with
    | nil => rfl
    | cons y ys => simp only [all2, ih (ys := ys) (by simpa using h), Bool.and_false]

theorem all2_at {α β : Type} {R : α → β → Bool} : ∀ {xs : List α} {ys : List β} {i : Nat} {x : α} {y : β}, xs[i]? = some x → ys[i]? = some y → R x y = false → all2 R xs ys = false := by
  intro xs
  induction xs with
  | nil => intro ys i x y hx; simp at hx
  | cons a xs ih =>
    intro ys i x y hx hy h
    cases ys with
    | nil => rfl
    | cons b ys =>
      cases i with
      | zero =>
        simp only [List.getElem?_cons_zero, Option.some.injEq] at hx hy
        subst hx; subst hy
        simp only [all2, h, Bool.false_and]
      | succ i =>
        simp only [List.getElem?_cons_succ] at hx hy
        simp only [all2, ih hx hy h, Bool.and_false]

theorem all2_all {α β : Type} {R : α → β → Bool} : ∀ {xs : List α} {ys : List β}, xs.length = ys.length → (∀ (i : Nat) x y, xs[i]? = some x → ys[i]? = some y → R x y = true) → all2 R xs ys = true := by
  intro xs
  induction xs with
  | nil => intro ys h _; cases ys with
    | nil => rfl
    | cons y ys => simp at h
  | cons a xs ih =>
    intro ys h hr
    cases ys with
    | nil => simp at h
    | cons b ys =>
      simp only [all2, hr 0 a b rfl rfl, Bool.true_and]
      exact ih (by simpa using h) (fun i x y hx hy => hr (i + 1) x y hx hy)

theorem all2_congr {α β : Type} {R R' : α → β → Bool} : ∀ {xs : List α} {ys : List β}, (∀ x ∈ xs, ∀ y ∈ ys, R x y = R' x y) → all2 R xs ys = all2 R' xs ys := by
  intro xs
  induction xs with
  | nil => intro ys h; cases ys <;> rfl
  | cons a xs ih =>
    intro ys h
    cases ys with
    | nil => rfl
    | cons b ys =>
      simp only [all2, h a (by simp) b (by simp), ih (ys := ys) (fun x hx y hy => h x (by simp [hx]) y (by simp [hy]))]

theorem all2_map {α β γ δ : Type} {R : γ → δ → Bool} {f : α → γ} {g : β → δ} : ∀ {xs : List α} {ys : List β}, all2 R (xs.map f) (ys.map g) = all2 (fun x y => R (f x) (g y)) xs ys := by
  intro xs
  induction xs with
  | nil => intro ys; cases ys <;> rfl
  | cons a xs ih => intro ys; cases ys with
    | nil => rfl
    | cons b ys => simp only [List.map_cons, all2, ih]

theorem wp_mono {call : CallF} {QD QD' : AX → St → Prop} {QR QR' : CRes → Prop} (hd : ∀ x s, QD x s → QD' x s) (hr : ∀ r, QR r → QR' r) : ∀ {t : Tr}, t.wp call QD QR → t.wp call QD' QR' := by
  intro t
  induction t with
  | fail => intro h; exact h.elim
  | done x s => intro h; exact hd _ _ h
  | ret r => intro h; exact hr _ h
  | branch b t f iht ihf => intro h; exact ⟨fun e => iht (h.1 e), fun e => ihf (h.2 e)⟩
  | row rows i shape k ih => rintro ⟨lf, h0, h1, h2⟩; exact ⟨lf, h0, h1, ih _ h2⟩
  | callB g args H k ih => rintro ⟨b, m, H', h1, h2⟩; exact ⟨b, m, H', h1, ih _ _ h2⟩
  | callI kd g args H k ih => rintro ⟨b, m, H', h1, h2⟩; exact ⟨b, m, H', h1, ih _ _ h2⟩
  | callV g args H k ih => rintro ⟨b, m, H', h1, h2⟩; exact ⟨b, m, H', h1, ih _ _ h2⟩

section
variable {P : Program} {cfg : FuncId → FCfg} {sh : FuncId → Sh} {rs : TypeId → List CSh} {f : FuncId} {α β : Type}

def retB (b : Bool) (H : Heap) : CRes := ⟨.ret (.val (.bool b)), .none, H⟩

theorem cmp_loop {ext : Ext} {fn : Func} {a c d body tl : Code} {id : Nat} {args : List AV} {H : Heap} {xs : List α} {ys : List β} {R : α → β → Bool} (S : Nat → St) (hx : ext f = none) (hf : P.funcs[f]? = some fn)
    (hc : fn.body = some (.seq a (.seq c (.seq (.seq d (.block id (.loop body))) tl))))
    (h0 : (kHead P cfg sh rs f fn id (.seq a (.seq c d)) args H).wp (ev P cfg ext) (fun _ s0 => xs.length = ys.length ∧ s0 = S 0) (fun r => xs.length ≠ ys.length ∧ r = retB false H))
    (hr : ∀ (i : Nat) x y, xs[i]? = some x → ys[i]? = some y → (kLoop P cfg sh rs f fn id body tl (S i)).wp (ev P cfg ext) (fun _ s0 => R x y = true ∧ s0 = S (i + 1)) (fun r => R x y = false ∧ r = retB false H))
    (he : xs.length = ys.length → (kLoop P cfg sh rs f fn id body tl (S xs.length)).wp (ev P cfg ext) (fun _ s0 => False) (fun r => r = retB true H)) :
    ev P cfg ext f args .none H = some (retB (all2 R xs ys) H) := by
  refine ev_loop (fun n s => ∃ k, n = xs.length - k ∧ k ≤ xs.length ∧ xs.length = ys.length ∧ s = S k ∧ ∀ (i : Nat) x y, i < k → xs[i]? = some x → ys[i]? = some y → R x y = true) hx hf hc (wp_mono ?_ ?_ h0) ?_
  · rintro x s ⟨hl, rfl⟩
    exact ⟨_, 0, rfl, Nat.zero_le _, hl, rfl, fun i x y hi => absurd hi (by omega)⟩
  · rintro r ⟨hl, rfl⟩
    rw [all2_len hl]
  · rintro n s ⟨k, rfl, hk, hl, rfl, ha⟩
    rcases Nat.lt_or_ge k xs.length with hlt | hge
    · have e1 : xs[k]? = some xs[k] := List.getElem?_eq_getElem hlt
      have e2 : ys[k]? = some (ys[k]'(by omega)) := List.getElem?_eq_getElem (by omega)
      refine wp_mono ?_ ?_ (hr k _ _ e1 e2)
      · rintro x s ⟨hR, rfl⟩
        refine ⟨xs.length - (k + 1), by omega, k + 1, rfl, hlt, hl, rfl, ?_⟩
        intro i x y hi hx hy
        rcases Nat.lt_or_ge i k with h | h
        · exact ha i x y h hx hy
        · have : i = k := by omega
          subst this
          rw [e1] at hx; rw [e2] at hy
          simp only [Option.some.injEq] at hx hy
          subst hx; subst hy; exact hR
      · rintro r ⟨hR, rfl⟩
        rw [all2_at e1 e2 hR]
    · have : k = xs.length := by omega
      subst this
      refine wp_mono (fun _ _ h => h.elim) ?_ (he hl)
      rintro r rfl
      rw [all2_all hl fun i x y hx hy => ha i x y (List.getElem?_eq_some_iff.1 hx).1 hx hy]
end
end Go.Eng
