/- LEX: the document's Lex; the law LexLexes -/
import Derived.Test.YtnohjjhgdkpgcaaDoorL8
open Go Go.Eng Go.Lx
namespace Go.Proofs
set_option linter.unusedVariables false
set_option linter.unusedSimpArgs false
set_option maxRecDepth 100000

/-- what is left to do, blanks being gone over -/
def lxS (b : Bool) (l : T) (a cnt : Nat) : Except (Nat × Nat) (List Tok) :=
  match b with
  | false => .error (a, 10)
  | true => match l with
    | [] => .ok []
    | c :: r => match one resP (c :: r) with
      | .error e => .error (a, e)
      | .ok (k, n, v) => if cnt = 1024 then .error (a, 3) else (lx resP (r.drop (n - 1)) (a + n) (cnt + 1)).map (⟨k, (c :: r).take n, v, a⟩ :: ·)
theorem lx_lxS (l : T) (a cnt : Nat) : lx resP l a cnt = lxS (skp l).2 (l.drop (skp l).1) (a + (skp l).1) cnt := by
  rw [lx_eq]
  unfold lxS
  cases (skp l).2 with
  | false => rfl
  | true =>
    simp only
    cases l.drop (skp l).1 with
    | nil => rfl
    | cons c r =>
      simp only
      cases one resP (c :: r) with
      | error e => rfl
      | ok t => rfl

theorem y_rLex (s : ByteArray) (i : Int) (b : Bool) : (((X_rLex s).F.I i).B b).T = Y_rLex s i b := by delta Y_rLex X_rLex; rfl
theorem c_rLex (s : ByteArray) : evp f_waferref03_Lex [vS s] .none [] = some ⟨.ret (lexV (lexA s)), .none, []⟩ := by
  refine kt3_ev (wp_eq2 (X_rLex_eq s) (wp_if2 (fun h => ?_) (fun h => ?_)))
  · have h := of_decide_eq_true h
    refine ⟨rfl, ret_eq ?_⟩
    unfold lexA; rw [if_pos (by omega)]; rfl
  have h := of_decide_eq_false h
  have hs : s.size ≤ 4096 := by omega
  have hB : s.size < BIG := by unfold BIG; omega
  have hA : lexA s = lx resP (tx s) 0 0 := by unfold lexA; rw [if_neg (by omega)]
  rw [hA]
  have hX := lx_lxS (tx s) 0 0
  have hsk := c_rskip (s := s) (a := 0) hB (Nat.zero_le _)
  rw [List.drop_zero] at hsk
  have hb0 := skp_bound (l := tx s)
  rw [tx_len] at hb0
  generalize hXX : lx resP (tx s) 0 0 = X
  rw [hXX] at hX
  rw [Nat.zero_add] at hX hsk
  have hX2 : X = ahead [] (lxS (skp (tx s)).2 ((tx s).drop (skp (tx s)).1) (skp (tx s)).1 0) := by
    rw [hX]; cases lxS (skp (tx s)).2 ((tx s).drop (skp (tx s)).1) (skp (tx s)).1 0 <;> rfl
  refine ⟨_, _, hsk, wp_eq2 (y_rLex s _ _) (loop3 (fun x : List Tok × Nat × Bool => ⟨tm2 57 [(0, vS s), (5, slY x.1), (6, vI x.2.1), (7, vB x.2.2)], lm2 57 [], ⟨[], [], .none, 0⟩⟩)
    (fun x => x.2.1 ≤ s.size ∧ x.1.length ≤ 1024 ∧ X = ahead x.1 (lxS x.2.2 ((tx s).drop x.2.1) x.2.1 x.1.length)) (fun x => 1024 - x.1.length) ([], (skp (tx s)).1, (skp (tx s)).2) (by kernel_rfl) ⟨hb0, Nat.zero_le _, hX2⟩ ?_)⟩
  rintro ⟨ts, i, b⟩ ⟨h1, h2, h3⟩
  simp only at h1 h2 h3
  -- a round, told for both forms of the list
  have hend : (b = false → X = .error (i, 10)) ∧ (b = true → ¬ i < s.size → X = .ok ts) := by
    refine ⟨fun hb => ?_, fun hb hi => ?_⟩
    · subst hb; rw [h3]; rfl
    · subst hb
      rw [List.drop_eq_nil_of_le (by rw [tx_len]; omega)] at h3
      rw [h3]; simp [lxS, ahead]
  have hnext : b = true → i < s.size → ∃ r, evp f_waferref03_next [vS s, vI i] .none [] = some r ∧
      ((∃ (e : Nat) (k n m : Int) (t : ByteArray), e ≠ 0 ∧ r = ⟨.ret (.tuple [.agg [vI k, vS t, vI n, vI m], vI e]), .none, []⟩ ∧ X = .error (i, e)) ∨
       (∃ (k n v : Nat) (c : UInt8) (q : T), r = ⟨.ret (.tuple [.agg [vI k, vS (s.extract i (i + n)), vI v, vI i], vI 0]), .none, []⟩ ∧ (tx s).drop i = c :: q ∧ 1 ≤ n ∧ i + n ≤ s.size ∧
          (ts.length = 1024 → X = .error (i, 3)) ∧
          (ts.length < 1024 → X = ahead (ts ++ [⟨k, (c :: q).take n, v, i⟩]) (lxS (skp ((tx s).drop (i + n))).2 ((tx s).drop (i + n + (skp ((tx s).drop (i + n))).1)) (i + n + (skp ((tx s).drop (i + n))).1) (ts.length + 1))))) := by
    intro hb hi
    subst hb
    obtain ⟨c, q, hd, hc, hr⟩ := tx_at hi
    obtain ⟨r, h4, h5⟩ := c_rnext hs hi
    refine ⟨r, h4, ?_⟩
    rw [hd] at h5 h3
    cases hx : one resP (c :: q) with
    | error e =>
      rw [hx] at h5
      obtain ⟨k, n, m, t, h6⟩ := h5
      refine .inl ⟨e, k, n, m, t, one_err0 hx, h6, ?_⟩
      rw [h3]; simp only [lxS, hx]; rfl
    | ok t =>
      obtain ⟨k, n, v⟩ := t
      rw [hx] at h5
      obtain ⟨b1, b2, _⟩ := one_bound hx
      have hlen : q.length + 1 = s.size - i := by have e := congrArg List.length hd; rw [List.length_drop, tx_len] at e; simp at e; omega
      simp only [List.length_cons] at b2
      refine .inr ⟨k, n, v, c, q, h5, hd, b1, by omega, fun hl => ?_, fun hl => ?_⟩
      · rw [h3]; simp only [lxS, hx]; rw [if_pos hl]; rfl
      · rw [h3]; simp only [lxS, hx]
        rw [if_neg (by omega), ahead_map, drop_pred c q b1, ← hd, List.drop_drop]
        congr 1
        rw [lx_lxS, List.drop_drop]
        simp only [lxS]
  cases ts with
  | nil =>
    refine wp_eq2 (X_rLexR0_eq s _ _ i b) (wp_if2 (fun hb => ?_) (fun hb => ?_))
    · refine wp_if2 (fun hi => ?_) (fun hi => ?_)
      · have hi := of_decide_eq_true hi
        obtain ⟨r, h4, h5⟩ := hnext hb (by omega)
        rcases h5 with ⟨e, k, n, m, t, he, rfl, h6⟩ | ⟨k, n, v, c, q, rfl, hd, b1, b2, h6, h7⟩
        · refine ⟨_, _, _, _, _, h4, wp_if2 (fun _ => wp_out ⟨rfl, ret_eq ?_⟩) (fun hz => ?_)⟩
          · rw [h6]; rfl
          · rw [ne0 he] at hz; cases hz
        · refine ⟨_, _, _, _, _, h4, wp_if2 (fun hz => absurd hz (by decide)) (fun _ => wp_if2 (fun hq => absurd hq (by decide)) (fun _ => ⟨by decide, ?_⟩))⟩
          have hsk2 := c_rskip (s := s) (a := i + n) hB b2
          have hbn := skp_bound (l := (tx s).drop (i + n))
          rw [List.length_drop, tx_len] at hbn
          have e1 : IntKind.i64.wrap ((i : Int) + ((s.extract i (i + n)).size : Int)) = ((i + n : Nat) : Int) := by rw [ext_size b2]; exact kw_add (by omega)
          simp only [e1]
          refine ⟨_, _, hsk2, wp_done ⟨([⟨k, (c :: q).take n, v, i⟩], i + n + (skp ((tx s).drop (i + n))).1, (skp ((tx s).drop (i + n))).2), ⟨⟨by simp only; omega, by simp, ?_⟩, by simp⟩, ?_⟩⟩
          · exact h7 (by simp)
          · rw [show slY [⟨k, (c :: q).take n, v, i⟩] = .slice 4 [tokRow ⟨k, (c :: q).take n, v, i⟩] .yes from rfl, ← row_eq hd]; try rfl
      · have hi := of_decide_eq_false hi
        refine wp_out (wp_if2 (fun hz => by rw [hb] at hz; cases hz) (fun _ => ⟨rfl, ret_eq ?_⟩))
        rw [hend.2 hb (by omega)]; rfl
    · refine wp_out (wp_if2 (fun _ => ⟨rfl, ret_eq ?_⟩) (fun hz => by rw [hb] at hz; cases hz))
      rw [hend.1 hb]; rfl
  | cons t0 ts =>
    refine wp_eq2 (X_rLexR_eq s _ _ (tokRow t0 :: ts.map tokRow) i b) (wp_if2 (fun hb => ?_) (fun hb => ?_))
    · refine wp_if2 (fun hi => ?_) (fun hi => ?_)
      · have hi := of_decide_eq_true hi
        obtain ⟨r, h4, h5⟩ := hnext hb (by omega)
        have hll : (tokRow t0 :: ts.map tokRow).length = (t0 :: ts).length := by simp
        rcases h5 with ⟨e, k, n, m, t, he, rfl, h6⟩ | ⟨k, n, v, c, q, rfl, hd, b1, b2, h6, h7⟩
        · refine ⟨_, _, _, _, _, h4, wp_if2 (fun _ => wp_out ⟨rfl, ret_eq ?_⟩) (fun hz => ?_)⟩
          · rw [h6]; rfl
          · rw [ne0 he] at hz; cases hz
        · refine ⟨_, _, _, _, _, h4, wp_if2 (fun hz => absurd hz (by decide)) (fun _ => wp_if2 (fun hq => ?_) (fun hq => ?_))⟩
          · have hq : ((tokRow t0 :: ts.map tokRow).length : Int) = 1024 := by simpa using hq
            rw [hll] at hq
            refine wp_out ⟨rfl, ret_eq ?_⟩
            rw [h6 (by omega)]; rfl
          · have hq : ¬ ((tokRow t0 :: ts.map tokRow).length : Int) = 1024 := by simpa using hq
            rw [hll] at hq
            have hl : (t0 :: ts).length < 1024 := by omega
            refine ⟨by rw [Nat.ble_eq]; simp at hl ⊢; omega, ?_⟩
            have hsk2 := c_rskip (s := s) (a := i + n) hB b2
            have hbn := skp_bound (l := (tx s).drop (i + n))
            rw [List.length_drop, tx_len] at hbn
            have e1 : IntKind.i64.wrap ((i : Int) + ((s.extract i (i + n)).size : Int)) = ((i + n : Nat) : Int) := by rw [ext_size b2]; exact kw_add (by omega)
            simp only [e1]
            refine ⟨_, _, hsk2, wp_done ⟨(t0 :: ts ++ [⟨k, (c :: q).take n, v, i⟩], i + n + (skp ((tx s).drop (i + n))).1, (skp ((tx s).drop (i + n))).2), ⟨⟨by simp only; omega, by simp at hl ⊢; omega, ?_⟩, by simp at hl ⊢; omega⟩, ?_⟩⟩
            · simp only [List.length_append, List.length_cons, List.length_nil]
              exact h7 hl
            · simp only [slY_snoc]
              rw [← row_eq hd]; try rfl
      · have hi := of_decide_eq_false hi
        refine wp_out (wp_if2 (fun hz => by rw [hb] at hz; cases hz) (fun _ => ⟨rfl, ret_eq ?_⟩))
        rw [hend.2 hb (by omega)]; rfl
    · refine wp_out (wp_if2 (fun _ => ⟨rfl, ret_eq ?_⟩) (fun hz => by rw [hb] at hz; cases hz))
      rw [hend.1 hb]; rfl

/-! ### Theirs -/
theorem y_Theirs (l : List (List AV)) : kt3 f_waferlaw03_Theirs [.slice 4 l .no] [] = Y_Theirs l := by delta Y_Theirs; rfl
theorem c_Theirs {ts : List Tok} (hl : ts.length ≤ 2000000000) : evp f_waferlaw03_Theirs [.slice 4 (ts.map tokRow) .no] .none [] = some ⟨.ret (.slice 4 (ts.map tokRow) .no), .none, []⟩ := by
  refine kt3_ev (wp_eq2 (y_Theirs _) (loop3 (fun i : Nat => ⟨tm2 36 [(0, (.slice 4 (ts.map tokRow) .no)), (3, slY (ts.take i)), (4, (vI i))], lm2 36 [], ⟨[], [], .none, 0⟩⟩)
    (fun i => i ≤ ts.length) (fun i => ts.length - i) 0 (by kernel_rfl) (Nat.zero_le _) ?_))
  intro i hi
  have hn : ∀ (h : i < ts.length), slY (ts.take (i + 1)) = .slice 4 ((ts.take i).map tokRow ++ [tokRow ts[i]]) .yes := fun h => by rw [List.take_succ_eq_append_getElem h, slY_snoc]
  have hrow : ∀ (h : i < ts.length), (ts.map tokRow)[i]? = some (tokRow ts[i]) := fun h => by simp [h]
  have hend : ¬ i < ts.length → ts.take i = ts := fun h => List.take_of_length_le (by omega)
  cases hp : ts.take i with
  | nil =>
    rw [show slY [] = .slice 0 [] .full from rfl]
    refine wp_eq2 (X_TheirsR0_eq _ i) (wp_if2 (fun h => ?_) (fun h => ?_))
    · have h := of_decide_eq_true h
      rw [List.length_map] at h
      have h : i < ts.length := by omega
      refine wp_trow (hrow h) (wp_trow (hrow h) (wp_trow (hrow h) (wp_trow (hrow h) ⟨rfl, ?_⟩)))
      rw [kw_succ (by omega)]
      refine wp_done ⟨i + 1, ⟨by omega, by omega⟩, ?_⟩
      rw [hn h, hp]; rfl
    · have h := of_decide_eq_false h
      rw [List.length_map] at h
      have hts : ts = [] := by rw [← hend (by omega)]; exact hp
      subst hts
      exact wp_out ⟨rfl, rfl⟩
  | cons u us =>
    rw [show slY (u :: us) = .slice 4 (tokRow u :: us.map tokRow) .yes from rfl]
    refine wp_eq2 (X_TheirsR_eq _ _ i) (wp_if2 (fun h => ?_) (fun h => ?_))
    · have h := of_decide_eq_true h
      rw [List.length_map] at h
      have h : i < ts.length := by omega
      have hlen : (u :: us).length ≤ i := by rw [← hp, List.length_take]; omega
      refine wp_trow (hrow h) (wp_trow (hrow h) (wp_trow (hrow h) (wp_trow (hrow h) ⟨by rw [Nat.ble_eq]; simp at hlen ⊢; omega, ?_⟩)))
      rw [kw_succ (by omega)]
      refine wp_done ⟨i + 1, ⟨by omega, by omega⟩, ?_⟩
      rw [hn h, hp]; rfl
    · have h := of_decide_eq_false h
      rw [List.length_map] at h
      have hts := hend (by omega)
      rw [hp] at hts
      refine wp_out ⟨rfl, ret_eq ?_⟩
      rw [← hts]; rfl

/-! ### LexLexes -/
theorem wp_rLex {s : ByteArray} {K : List (List AV) → Int → Int → KT} {QD : List (St → Prop)} {QR : CRes → Prop} (hok : ∀ ts, lexA s = .ok ts → (K (ts.map tokRow) 0 0).wp Pg cfg0 evp QD QR) (herr : ∀ p e, lexA s = .error (p, e) → (K [] p e).wp Pg cfg0 evp QD QR) :
    (KT.exR fun l => .exI fun i => .exI fun i1 => .call f_waferref03_Lex [vS s] .none [] ⟨.ret (.tuple [.slice 4 l .no, vI i, vI i1]), .none, []⟩ (K l i i1)).wp Pg cfg0 evp QD QR := by
  have h := c_rLex s
  cases hx : lexA s with
  | ok ts => rw [hx] at h; exact ⟨_, _, _, h, hok ts hx⟩
  | error e => obtain ⟨p, e⟩ := e; rw [hx] at h; exact ⟨_, _, _, h, herr p e hx⟩
theorem y_LexLexes (s : ByteArray) (l : List (List AV)) (i i1 : Int) (l1 : List (List AV)) (i2 i3 : Int) (l2 : List (List AV)) : ((X_LexLexess1 s l i i1 l1 i2 i3).R l2).T = Y_LexLexes s l i i1 l1 i2 i3 l2 := by delta Y_LexLexes X_LexLexess1 X_LexLexes; rfl
theorem Lexes_rest (s : ByteArray) (ts : List Tok) (hl : ts.length ≤ 1024) (i i1 : Int) {QD : List (St → Prop)} :
    ((((((((X_LexLexes s).R (ts.map tokRow)).I i).I i1).T.R (ts.map tokRow)).I i).I i1).T.K ⟨tm2 59 [(3, (.slice 4 (ts.map tokRow) .no)), (6, (.slice 4 (ts.map tokRow) .no))], lm2 59 [], ⟨[], [], .none, 0⟩⟩).wp Pg cfg0 evp QD (fun x => x = ⟨.ret (vB true), .none, []⟩) := by
  refine wp_eq2 (X_LexLexess1_eq s _ i i1 _ i i1) ⟨_, c_Theirs (by omega), wp_eq2 (y_LexLexes ..) (loop3 (fun k : Nat => ⟨tm2 59 [(6, (.slice 4 (ts.map tokRow) .no)), (9, (.slice 4 (ts.map tokRow) .no)), (10, (vI k))], lm2 59 [], ⟨[], [], .none, 0⟩⟩)
    (fun k => k ≤ ts.length) (fun k => ts.length - k) 0 (by kernel_rfl) (Nat.zero_le _) ?_)⟩
  intro k hk
  refine wp_eq2 (X_LexLexesR_eq ..) (wp_if2 (fun h => ?_) (fun h => ?_))
  · have h := of_decide_eq_true h
    rw [List.length_map] at h
    have h : k < ts.length := by omega
    have hrow : (ts.map tokRow)[k]? = some (tokRow ts[k]) := by simp [h]
    refine wp_trow hrow (wp_trow hrow ⟨false, tok_refl _ _ _, wp_if2 (fun h => by cases h) (fun _ => ?_)⟩)
    rw [kw_succ (by omega)]
    exact wp_done ⟨k + 1, ⟨by omega, by omega⟩, rfl⟩
  · exact wp_out ⟨rfl, rfl⟩
theorem law_Lexes (s : ByteArray) : evp f_waferlaw03_LexLexes [vS s] .none [] = some ⟨.ret (vB true), .none, []⟩ := by
  have nn : ∀ i : Int, (i != i) = false := fun i => by simp
  refine kt3_ev (wp_eq2 (X_LexLexes_eq s) (wp_Lex (fun ts h1 => wp_rLex (fun us h2 => wp_stage ?_) (fun p e h2 => by rw [h1] at h2; cases h2)) (fun p e h1 => wp_rLex (fun us h2 => by rw [h1] at h2; cases h2) (fun p' e' h2 => wp_stage ?_))))
  · rw [h1] at h2; cases h2
    have hl := (lexA_ok h1).2.2
    refine wp_if2 (fun h => by rw [nn] at h; cases h) (fun _ => wp_if2 (fun h => by rw [nn] at h; cases h) (fun _ => wp_if2 (fun h => by rw [nn] at h; cases h) (fun _ => wp_alive (wp_if2 (fun h => by cases h) (fun _ => wp_done (Lexes_rest s ts hl 0 0))))))
  · rw [h1] at h2; cases h2
    refine wp_if2 (fun h => by rw [nn] at h; cases h) (fun _ => wp_if2 (fun h => by rw [nn] at h; cases h) (fun _ => wp_if2 (fun h => by rw [nn] at h; cases h) (fun _ => wp_alive (wp_if2 (fun h => by cases h) (fun _ => wp_done (Lexes_rest s [] (by simp) p e))))))
end Go.Proofs
