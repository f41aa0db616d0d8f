/- Texts of this proof folded into one: L3. -/
import Derived.Test.YtmdjdcnabbapgaaGreatDoorJ12
import Derived.Test.YtmdjdcnabbapgaaGreatDoorJ13
section
/- LEX: what the program's functions answer, part 3: one, Lex -/
open Go Go.Eng Go.Lx
namespace Go.Proofs
set_option linter.unusedVariables false
set_option linter.unusedSimpArgs false
set_option maxRecDepth 100000
theorem c_one {s : ByteArray} {a : Nat} (hs : s.size ≤ 4096) (ha : a < s.size) : evp f_lex_one [vS s, vI a] .none [] = some ⟨.ret (oneV s a (one resP ((tx s).drop a))), .none, []⟩ := by
  have hB : s.size < BIG := by unfold BIG; omega
  obtain ⟨c, r, hd, hc, hr⟩ := tx_at ha
  have hlen : r.length + 1 = s.size - a := by have := congrArg List.length hd; simp [tx_len] at this; simp [tx] at *; have e := tx_len s; simp [tx] at e; omega
  refine kt3_ev (wp_eq2 (X_one_eq s a) (wp_at hc ⟨_, _, _, _, _, _, c_sorted c, wp_stage ?_⟩))
  have hw := fun b => c_word (s := s) (a := a) (b := b) hB (by omega)
  rw [hd] at hw ⊢
  refine wp_if2 (fun hl => ?_) (fun hl => ?_)
  · refine wp_tok (hw (high c)) fun i s1 i1 i2 i3 e => wp_out ⟨rfl, ret_eq ?_⟩
    rw [← e]
    unfold one
    simp only [hl, Bool.true_or, if_true]
  · refine wp_if2 (fun hh => ?_) (fun hh => ?_)
    · refine wp_tok (hw (high c)) fun i s1 i1 i2 i3 e => wp_out ⟨rfl, ret_eq ?_⟩
      rw [← e]
      unfold one
      simp only [hh, Bool.or_true, if_true]
    · refine wp_if2 (fun hg => ?_) (fun hg => ?_)
      · have hn := span_drop digit s a (by omega)
        have h2 := c_run2 hB (Nat.le_of_lt ha)
        rw [hd] at hn h2
        have hall : ∀ x ∈ (c :: r).take (span digit (c :: r)), digit x = true := fun x hx => span_all x hx
        have hpos : 1 ≤ span digit (c :: r) := by simp [span, hg]
        have hone : one resP (c :: r) = match numFrom 0 ((c :: r).take (span digit (c :: r))) with
            | none => .error 1
            | some v => .ok (4, span digit (c :: r), v) := by
          unfold one
          simp only [hl, hh, hg, Bool.or_false, Bool.false_eq_true, if_false, if_true]
          cases numFrom 0 ((c :: r).take (span digit (c :: r))) <;> rfl
        rw [hone]
        generalize span digit (c :: r) = n at *
        have et : tx (s.extract (a : Int).toNat ((a + n : Nat) : Int).toNat) = (c :: r).take n := by rw [Int.toNat_natCast, Int.toNat_natCast, tx_ext_n, hd]
        have hne : tx (s.extract (a : Int).toNat ((a + n : Nat) : Int).toNat) ≠ [] := by
          rw [et]
          cases n with
          | zero => omega
          | succ n => simp
        have hsz : (s.extract (a : Int).toNat ((a + n : Nat) : Int).toNat).size ≤ 281474976710656 := by
          rw [Int.toNat_natCast, Int.toNat_natCast, ByteArray.size_extract]; omega
        refine ⟨_, h2, by apply decide_eq_true; omega, ?_⟩
        cases hv : numFrom 0 ((c :: r).take n) with
        | some v =>
          have hp := c_ParseInt (v := v) hne (by rw [et]; exact hall) hsz (by rw [et]; exact hv)
          exact ⟨_, .inl ⟨hp, wp_if2 (fun h => absurd h (by decide)) (fun _ => wp_out ⟨rfl, rfl⟩)⟩⟩
        | none =>
          have hp := c_ParseIntR hne (by rw [et]; exact hall) hsz (by rw [et]; exact hv)
          exact ⟨_, .inr ⟨hp, wp_if2 (fun _ => wp_out ⟨rfl, rfl⟩) (fun h => absurd h (by decide))⟩⟩
      · refine wp_at hc (wp_if2 (fun hq => ?_) (fun hq => ?_))
        · rw [c39] at hq
          have hone : one resP (c :: r) = if !(r.head?.map low).getD false then .error 10 else if 32 < span tyvB r + 1 then .error 12 else .ok (5, span tyvB r + 1, 0) := by
            unfold one
            simp only [hl, hh, hg, hq, Bool.or_false, Bool.false_eq_true, if_false, if_true]
          rw [hone, kw_succ' (by omega)]
          have hn := span_drop tyvB s (a + 1) (by omega)
          have h3 := c_run3 hB (a := a + 1) (by omega)
          rw [← hr] at hn h3
          refine ⟨_, h3, wp_stage (wp_if2 (fun he => ?_) (fun he => ?_))⟩
          · have he : ((a + 1 + span tyvB r : Nat) : Int) = ((a + 1 : Nat) : Int) := by simpa using he
            have h0 : span tyvB r = 0 := by omega
            have hx : (r.head?.map low).getD false = false := by
              cases r with
              | nil => rfl
              | cons d r =>
                have := span_head h0 d rfl
                simp only [tyvB, Bool.or_eq_false_iff] at this
                simp [this.1]
            rw [hx]
            exact wp_out (wp_out ⟨rfl, rfl⟩)
          · have he : ¬ ((a + 1 + span tyvB r : Nat) : Int) = ((a + 1 : Nat) : Int) := by simpa using he
            have h0 : span tyvB r ≠ 0 := by omega
            cases hrr : r with
            | nil => rw [hrr] at h0; exact absurd rfl h0
            | cons d r' =>
              have hd2 := hr.symm.trans hrr
              obtain ⟨_, hc2, _⟩ := tx_of hd2
              refine wp_at hc2 ⟨_, _, _, _, _, _, c_sorted d, wp_if2 (fun hb => ?_) (fun hb => ?_)⟩
              · simp only [List.head?_cons, Option.map_some, Option.getD_some, hb, if_true]
                exact wp_out (wp_out ⟨rfl, rfl⟩)
              · simp only [List.head?_cons, Option.map_some, Option.getD_some, hb, Bool.false_eq_true, if_false]
                rw [← hrr]
                refine wp_done (wp_eq2 (X_ones1_eq s a c _ _ _ _ _ _ c _) (wp_if2 (fun h => ?_) (fun h => ?_)))
                · have h := of_decide_eq_true h
                  rw [IntKind.wrap_i64] at h
                  rw [if_pos (by omega)]
                  exact wp_out ⟨rfl, rfl⟩
                · have h := of_decide_eq_false h
                  rw [IntKind.wrap_i64] at h
                  rw [if_neg (by omega)]
                  refine ⟨by apply decide_eq_true; omega, wp_out ⟨rfl, ret_eq ?_⟩⟩
                  have : a + 1 + span tyvB r = a + (span tyvB r + 1) := by omega
                  rw [this]; rfl
        · rw [c39] at hq
          have hone : one resP (c :: r) = if two (c :: r) then .ok (6, 2, 0) else if marks.contains c then .ok (6, 1, 0) else .error 10 := by
            unfold one
            simp only [hl, hh, hg, hq, Bool.or_false, Bool.false_eq_true, if_false]
          rw [hone]
          refine wp_done (wp_eq2 (y_ones2 s a c _ _ _ _ _ _) ?_)
          have hp : ∀ p : ByteArray, evp f_strings_HasPrefix [vS (s.extract (a : Int).toNat (s.size : Int).toNat), vS p] .none [] = some ⟨.ret (vB (pre (tx p) (c :: r))), .none, []⟩ := fun p => by rw [c_HasPrefix, ext_drop, hd]
          have e2 : ∀ p : ByteArray, tx p = [58, 62] ∨ tx p = [61, 62] ∨ tx p = [45, 62] → pre (tx p) (c :: r) = true → two (c :: r) = true ∧ p = s.extract a (a + 2) := by
            intro p hp2 hpre
            refine ⟨?_, ?_⟩
            · rw [two_pre]
              rcases hp2 with h | h | h <;> (rw [h] at hpre; simp [hpre])
            · apply tx_inj
              rw [tx_ext_n, hd]
              rw [pre_take, decide_eq_true_iff] at hpre
              have hl2 : (tx p).length = 2 := by rcases hp2 with h | h | h <;> rw [h] <;> rfl
              rw [hl2] at hpre; exact hpre.2.symm
          refine loop3 (fun i : Nat => ⟨tm2 113 [(0, (vS (s))), (1, (vI ((↑a : Int)))), (4, (.lp 4 0 0)), (84, (.slice 1 [[(vS ((⟨#[58, 62]⟩ : ByteArray)))], [(vS ((⟨#[61, 62]⟩ : ByteArray)))], [(vS ((⟨#[45, 62]⟩ : ByteArray)))]] .full)), (85, (vI 3)), (86, (vI i))], lm2 113 [(4, (0, [(vI (0)), (vS ((⟨#[]⟩ : ByteArray))), (vI (0)), (vI (0))]))], ⟨[], [], .none, 0⟩⟩)
            (fun i => i ≤ 3 ∧ (1 ≤ i → pre [58, 62] (c :: r) = false) ∧ (2 ≤ i → pre [61, 62] (c :: r) = false) ∧ (3 ≤ i → pre [45, 62] (c :: r) = false)) (fun i => 3 - i) 0 (by kernel_rfl) ⟨by omega, by omega, by omega, by omega⟩ ?_
          rintro i ⟨hi, q1, q2, q3⟩
          have step : ∀ {x y : ByteArray}, IntKind.i64.wrap ((i : Int) + 1) = ((i + 1 : Nat) : Int) := fun {_ _} => kw_succ (by omega)
          refine wp_eq2 (X_oneR_eq s a c _ _ _ _ _ _ i) (wp_if2 (fun h => ?_) (fun h => ?_))
          · have h := of_decide_eq_true h
            rw [kw_succ (by omega)]
            have hi3 : i = 0 ∨ i = 1 ∨ i = 2 := by omega
            rcases hi3 with rfl | rfl | rfl
            · refine ⟨⟨#[58, 62]⟩, ⟨by decide, rfl⟩, by apply decide_eq_true; omega, _, hp _, wp_if2 (fun hb => ?_) (fun hb => ?_)⟩
              · obtain ⟨g1, g2⟩ := e2 _ (.inl rfl) hb
                rw [if_pos g1, g2]; exact wp_out ⟨rfl, rfl⟩
              · exact wp_done ⟨1, ⟨⟨by omega, fun _ => hb, by omega, by omega⟩, by omega⟩, rfl⟩
            · refine ⟨⟨#[61, 62]⟩, ⟨by decide, rfl⟩, by apply decide_eq_true; omega, _, hp _, wp_if2 (fun hb => ?_) (fun hb => ?_)⟩
              · obtain ⟨g1, g2⟩ := e2 _ (.inr (.inl rfl)) hb
                rw [if_pos g1, g2]; exact wp_out ⟨rfl, rfl⟩
              · exact wp_done ⟨2, ⟨⟨by omega, fun _ => q1 (by omega), fun _ => hb, by omega⟩, by omega⟩, rfl⟩
            · refine ⟨⟨#[45, 62]⟩, ⟨by decide, rfl⟩, by apply decide_eq_true; omega, _, hp _, wp_if2 (fun hb => ?_) (fun hb => ?_)⟩
              · obtain ⟨g1, g2⟩ := e2 _ (.inr (.inr rfl)) hb
                rw [if_pos g1, g2]; exact wp_out ⟨rfl, rfl⟩
              · exact wp_done ⟨3, ⟨⟨by omega, fun _ => q1 (by omega), fun _ => q2 (by omega), fun _ => hb⟩, by omega⟩, rfl⟩
          · have h := of_decide_eq_false h
            have ht : two (c :: r) = false := by rw [two_pre, q1 (by omega), q2 (by omega), q3 (by omega)]; rfl
            rw [if_neg (by rw [ht]; decide)]
            refine wp_out (wp_at hc ⟨_, c_ContainsRune c, wp_if2 (fun hb => ?_) (fun hb => ?_)⟩)
            · have hb : marks.contains c = false := by simpa using hb
              rw [if_neg (by rw [hb]; decide)]
              exact ⟨rfl, rfl⟩
            · have hb : marks.contains c = true := by simpa using hb
              rw [if_pos hb, kw_succ' (by omega)]
              exact ⟨by apply decide_eq_true; omega, rfl, rfl⟩
/-! ### Lex -/
def tokRow (t : Tok) : List AV := [vI t.kind, vS ⟨t.text.toArray⟩, vI t.n, vI t.at_]
def slY : List Tok → AV
  | [] => .slice 0 [] .full
  | t :: ts => .slice 4 (tokRow t :: ts.map tokRow) .yes
def slN (ts : List Tok) : AV := .slice 4 (ts.map tokRow) .no
def lexV : Except (Nat × Nat) (List Tok) → AV
  | .error (p, e) => .tuple [.slice 4 [] .no, vI p, vI e]
  | .ok ts => .tuple [slN ts, vI 0, vI 0]
def lexA (s : ByteArray) : Except (Nat × Nat) (List Tok) := if 4096 < s.size then .error (0, 3) else lx resP (tx s) 0 0
/-- tokens that are there already, ahead -/
def ahead (ts : List Tok) : Except (Nat × Nat) (List Tok) → Except (Nat × Nat) (List Tok)
  | .error e => .error e
  | .ok us => .ok (ts ++ us)
theorem ahead_map (ts : List Tok) (t : Tok) (x : Except (Nat × Nat) (List Tok)) : ahead ts (x.map (t :: ·)) = ahead (ts ++ [t]) x := by
  cases x with
  | error e => rfl
  | ok us => simp [ahead, Except.map]
theorem row_eq {s : ByteArray} {a k n v : Nat} {l : T} (hd : (tx s).drop a = l) : [vI k, vS (s.extract a (a + n)), vI v, vI a] = tokRow ⟨k, l.take n, v, a⟩ := by
  have : s.extract a (a + n) = ⟨(l.take n).toArray⟩ := tx_inj (by rw [tx_ext_n, hd])
  rw [this]; rfl
theorem y_Lex (s : ByteArray) : (X_Lex s).F = Y_Lex s := by delta Y_Lex X_Lex; rfl
theorem slY_snoc (ts : List Tok) (t : Tok) : slY (ts ++ [t]) = .slice 4 (ts.map tokRow ++ [tokRow t]) .yes := by
  cases ts with
  | nil => rfl
  | cons u us => simp [slY]
theorem one_err0 {l : T} {e : Nat} (h : one resP l = .error e) : e ≠ 0 := by
  cases l with
  | nil => simp [one] at h; omega
  | cons c r =>
    unfold one at h
    simp only at h
    repeat' split at h
    all_goals (first | (injection h with h; omega) | cases h)
set_option hygiene false in
theorem c_Lex (s : ByteArray) : evp f_lex_Lex [vS s] .none [] = some ⟨.ret (lexV (lexA s)), .none, []⟩ := by
  refine kt3_ev (wp_eq2 (X_Lex_eq s) (wp_if2 (fun h => ?_) (fun h => ?_)))
  · have h := of_decide_eq_true h
    refine ⟨rfl, ret_eq ?_⟩
    unfold lexA; rw [if_pos (by omega)]; rfl
  have h := of_decide_eq_false h
  have hs : s.size ≤ 4096 := by omega
  have hB : s.size < BIG := by unfold BIG; omega
  have hA : lexA s = lx resP (tx s) 0 0 := by unfold lexA; rw [if_neg (by omega)]
  rw [hA]
  have hX : lx resP (tx s) 0 0 = ahead [] (lx resP ((tx s).drop 0) 0 0) := by rw [List.drop_zero]; cases lx resP (tx s) 0 0 <;> rfl
  generalize hXX : lx resP (tx s) 0 0 = X
  rw [hXX] at hX
  refine wp_eq2 (y_Lex s) (loop3 (fun x : List Tok × Nat => ⟨tm2 54 [(0, vS s), (5, slY x.1), (6, vI x.2)], lm2 54 [], ⟨[], [], .none, 0⟩⟩)
    (fun x => x.2 ≤ s.size ∧ x.1.length ≤ 1024 ∧ X = ahead x.1 (lx resP ((tx s).drop x.2) x.2 x.1.length)) (fun x => s.size - x.2) ([], 0) (by kernel_rfl) ⟨Nat.zero_le _, Nat.zero_le _, hX⟩ ?_)
  rintro ⟨ts, i⟩ ⟨h1, h2, h3⟩
  simp only at h1 h2 h3
  rw [lx_eq] at h3
  have hsk := c_skipped hB h1
  have hskb := skp_bound (l := (tx s).drop i)
  rw [List.length_drop, tx_len, ] at hskb
  rw [List.drop_drop] at h3
  generalize hn : (skp ((tx s).drop i)).1 = n at *
  generalize hb0 : (skp ((tx s).drop i)).2 = b0 at *
  cases ts with
  | nil =>
    refine wp_eq2 (X_LexR0_eq s i) ⟨_, _, hsk, wp_if2 (fun hb => ?_) (fun hb => ?_)⟩
    · have hb : b0 = false := by simpa using hb
      subst hb
      refine wp_out ⟨rfl, ret_eq ?_⟩
      rw [h3]; rfl
    · have hb : b0 = true := by simpa using hb
      subst hb
      refine wp_if2 (fun he => ?_) (fun he => ?_)
      · have he : ((i + n : Nat) : Int) = (s.size : Int) := by simpa using he
        have hd : (tx s).drop (i + n) = [] := List.drop_eq_nil_of_le (by rw [tx_len]; omega)
        refine wp_out ⟨rfl, ret_eq ?_⟩
        rw [h3]; simp only [hd]; rfl
      · have he : ¬ ((i + n : Nat) : Int) = (s.size : Int) := by simpa using he
        have hlt : i + n < s.size := by omega
        have h1' := c_one hs hlt
        obtain ⟨c, r, hd, hc, hr⟩ := tx_at hlt
        simp only [hd] at h3 h1'
        cases hx : one resP (c :: r) with
        | error e =>
          rw [hx] at h1' h3
          have hne := one_err0 hx
          refine ⟨_, _, _, _, _, h1', wp_stage (wp_if2 (fun hz => ?_) (fun hz => ?_))⟩
          · have hz : (e : Int) = 0 := by simpa using hz
            omega
          · refine wp_done (wp_eq2 (X_LexR0s1_eq s i _ _ _ _ _ _ _ _) (wp_if2 (fun hq => ?_) (fun hq => ?_)))
            · refine wp_out ⟨rfl, ret_eq ?_⟩
              rw [h3]; rfl
            · have : (e : Int) = 0 := by simpa using hq
              omega
        | ok t =>
          obtain ⟨k, m, v⟩ := t
          rw [hx] at h1' h3
          obtain ⟨b1, b2, _⟩ := one_bound hx
          have hrl : r.length + 1 = s.size - (i + n) := by have e := congrArg List.length hd; rw [List.length_drop, tx_len] at e; simp at e; omega
          simp only [List.length_cons] at b2
          refine ⟨_, _, _, _, _, h1', wp_stage (wp_if2 (fun hz => ?_) (fun hz => absurd hz (by decide)))⟩
          refine wp_if2 (fun hq => absurd hq (by decide)) (fun hq => ?_)
          refine wp_done (wp_eq2 (X_LexR0s1_eq s i _ _ _ _ _ _ _ _) (wp_if2 (fun hq => absurd hq (by decide)) (fun hq => ?_)))
          refine ⟨by decide, wp_done ⟨([⟨k, (c :: r).take m, v, i + n⟩], i + n + m), ⟨⟨by simp only; omega, by simp, ?_⟩, by simp only; omega⟩, ?_⟩⟩
          · simp only [List.length_nil, Nat.zero_ne_one, if_false] at h3
            rw [h3, if_neg (by simp), ahead_map, drop_pred c r b1, ← hd, List.drop_drop]; try rfl
          · have e1 : IntKind.i64.wrap (((i + n : Nat) : Int) + ((s.extract (i + n) (i + n + m)).size : Int)) = ((i + n + m : Nat) : Int) := by rw [ext_size (by omega)]; exact kw_add (by omega)
            simp only [e1]
            rw [show slY [⟨k, (c :: r).take m, v, i + n⟩] = .slice 4 [tokRow ⟨k, (c :: r).take m, v, i + n⟩] .yes from rfl, ← row_eq hd]; try rfl
  | cons t0 ts =>
    refine wp_eq2 (X_LexR_eq s (tokRow t0 :: ts.map tokRow) i) ⟨_, _, hsk, wp_if2 (fun hb => ?_) (fun hb => ?_)⟩
    · have hb : b0 = false := by simpa using hb
      subst hb
      refine wp_out ⟨rfl, ret_eq ?_⟩
      rw [h3]; rfl
    · have hb : b0 = true := by simpa using hb
      subst hb
      refine wp_if2 (fun he => ?_) (fun he => ?_)
      · have he : ((i + n : Nat) : Int) = (s.size : Int) := by simpa using he
        have hd : (tx s).drop (i + n) = [] := List.drop_eq_nil_of_le (by rw [tx_len]; omega)
        refine wp_out ⟨rfl, ret_eq ?_⟩
        rw [h3]; simp only [hd, ahead, List.append_nil]; rfl
      · have he : ¬ ((i + n : Nat) : Int) = (s.size : Int) := by simpa using he
        have hlt : i + n < s.size := by omega
        have h1' := c_one hs hlt
        obtain ⟨c, r, hd, hc, hr⟩ := tx_at hlt
        simp only [hd] at h3 h1'
        cases hx : one resP (c :: r) with
        | error e =>
          rw [hx] at h1' h3
          have hne := one_err0 hx
          refine ⟨_, _, _, _, _, h1', wp_stage (wp_if2 (fun hz => ?_) (fun hz => ?_))⟩
          · have hz : (e : Int) = 0 := by simpa using hz
            omega
          · refine wp_done (wp_eq2 (X_LexRs1_eq s _ i _ _ _ _ _ _ _ _) (wp_if2 (fun hq => ?_) (fun hq => ?_)))
            · refine wp_out ⟨rfl, ret_eq ?_⟩
              rw [h3]; rfl
            · have : (e : Int) = 0 := by simpa using hq
              omega
        | ok t =>
          obtain ⟨k, m, v⟩ := t
          rw [hx] at h1' h3
          obtain ⟨b1, b2, _⟩ := one_bound hx
          have hrl : r.length + 1 = s.size - (i + n) := by have e := congrArg List.length hd; rw [List.length_drop, tx_len] at e; simp at e; omega
          simp only [List.length_cons] at b2
          have hll : (tokRow t0 :: ts.map tokRow).length = (t0 :: ts).length := by simp
          refine ⟨_, _, _, _, _, h1', wp_stage (wp_if2 (fun hz => ?_) (fun hz => absurd hz (by decide)))⟩
          refine wp_if2 (fun hq => ?_) (fun hq => ?_)
          · have hq : ((tokRow t0 :: ts.map tokRow).length : Int) = 1024 := by simpa using hq
            rw [hll] at hq
            refine wp_done (wp_eq2 (X_LexRs1_eq s _ i _ _ _ _ _ _ _ _) (wp_if2 (fun hq => ?_) (fun hq => absurd hq (by decide))))
            refine wp_out ⟨rfl, ret_eq ?_⟩
            simp only at h3
            rw [h3, if_pos (by omega)]; rfl
          · have hq : ¬ ((tokRow t0 :: ts.map tokRow).length : Int) = 1024 := by simpa using hq
            rw [hll] at hq
            refine wp_done (wp_eq2 (X_LexRs1_eq s _ i _ _ _ _ _ _ _ _) (wp_if2 (fun hq => absurd hq (by decide)) (fun hq2 => ?_)))
            refine ⟨?_, wp_done ⟨(t0 :: ts ++ [⟨k, (c :: r).take m, v, i + n⟩], i + n + m), ⟨⟨by simp only; omega, by simp at hq h2 ⊢; omega, ?_⟩, by simp only; omega⟩, ?_⟩⟩
            · rw [Nat.ble_eq]; simp at h2 ⊢; omega
            · simp only at h3
              rw [h3, if_neg (by omega), ahead_map, drop_pred c r b1, ← hd, List.drop_drop]; try simp
            · have e1 : IntKind.i64.wrap (((i + n : Nat) : Int) + ((s.extract (i + n) (i + n + m)).size : Int)) = ((i + n + m : Nat) : Int) := by rw [ext_size (by omega)]; exact kw_add (by omega)
              simp only [e1, slY_snoc]
              rw [← row_eq hd]; rfl
end Go.Proofs
end
