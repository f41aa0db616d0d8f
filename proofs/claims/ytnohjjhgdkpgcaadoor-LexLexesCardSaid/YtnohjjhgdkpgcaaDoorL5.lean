/- LEX: the laws without the document's answer: LexCovers, LexBlanks, LexSplits, LexBack -/
import Derived.Test.YtnohjjhgdkpgcaaDoorL4
import Derived.Test.YtnohjjhgdkpgcaaDoorP4
open Go Go.Eng Go.Lx
namespace Go.Proofs
set_option linter.unusedVariables false
set_option linter.unusedSimpArgs false
set_option maxRecDepth 100000

def REACH : Nat := 140737488351232
theorem lexA_ok {s : ByteArray} {ts : List Tok} (h : lexA s = .ok ts) : s.size ≤ 4096 ∧ Pieces resP (tx s) 0 ts ∧ ts.length ≤ 1024 := by
  unfold lexA at h
  split at h
  · cases h
  · obtain ⟨h1, h2⟩ := lx_pieces (by omega) h
    exact ⟨by omega, h1, by omega⟩
theorem lexA_of {s : ByteArray} {ts : List Tok} (hs : s.size ≤ 4096) (h : Pieces resP (tx s) 0 ts) (hl : ts.length ≤ 1024) : lexA s = .ok ts := by
  unfold lexA
  rw [if_neg (by omega)]
  exact pieces_lx h (by omega)
theorem lexA_err {s : ByteArray} {p e : Nat} (h : lexA s = .error (p, e)) : e ≠ 0 ∧ p ≤ s.size := by
  unfold lexA at h
  split at h
  · injection h with h; injection h with h1 h2; omega
  · have := lx_err h
    rw [tx_len] at this; exact ⟨this.1, by omega⟩
theorem tx_append (a b : ByteArray) : tx (a ++ b) = tx a ++ tx b := by simp [tx]
theorem ext_full (s : ByteArray) (i : Nat) : tx (s.extract i s.size) = (tx s).drop i := by
  have := ext_drop s i
  rwa [Int.toNat_natCast, Int.toNat_natCast] at this
section
variable {QD : List (St → Prop)} {QR : CRes → Prop}
theorem wp_Lex1 {s : ByteArray} {ts : List Tok} {K : List (List AV) → Int → Int → KT} (h : lexA s = .ok ts) (hok : (K (ts.map tokRow) 0 0).wp Pg cfg0 evp QD QR) :
    (KT.exR fun l => .exI fun i => .exI fun i1 => .call f_lex_Lex [vS s] .none [] ⟨.ret (.tuple [.slice 4 l .no, vI i, vI i1]), .none, []⟩ (K l i i1)).wp Pg cfg0 evp QD QR :=
  wp_Lex (fun us hu => by rw [h] at hu; cases hu; exact hok) (fun p e hu => by rw [h] at hu; cases hu)
theorem wp_Same1 {l m : List Tok} {K : Bool → KT} (hl : l.length < BIG) (hm : m.length < BIG) (h : l.map key = m.map key) (hk : (K true).wp Pg cfg0 evp QD QR) :
    (KT.exB fun b => .call f_lex_Same [.slice 4 (l.map tokRow) .no, .slice 4 (m.map tokRow) .no] .none [] ⟨.ret (vB b), .none, []⟩ (K b)).wp Pg cfg0 evp QD QR := by
  have hs := c_Same hl hm
  have e : sameB l m = true := by unfold sameB; rw [decide_eq_true_iff]; exact h
  rw [e] at hs
  exact ⟨true, hs, hk⟩
end
theorem ne0 {e : Nat} (h : e ≠ 0) : ((e : Int) != 0) = true := by simp; omega

/-! ### LexCovers -/
theorem y_LexCovers (s : ByteArray) (l : List (List AV)) (i i1 : Int) : ((((X_LexCovers s).R l).I i).I i1).T.F = Y_LexCovers s l i i1 := by delta Y_LexCovers X_LexCovers; rfl
theorem law_Covers (s : ByteArray) : evp f_waferlaw03_LexCovers [vS s] .none [] = some ⟨.ret (vB true), .none, []⟩ := by
  refine kt3_ev (wp_eq2 (X_LexCovers_eq s) (wp_Lex (fun ts h1 => ?_) (fun p e h1 => ?_)))
  · obtain ⟨hs, hp, hl⟩ := lexA_ok h1
    refine wp_if2 (fun h => absurd h (by decide)) (fun _ => ?_)
    refine wp_eq2 (y_LexCovers ..) (loop3 (fun x : Nat × Nat => ⟨tm2 173 [(0, (vS (s))), (3, (.slice 4 (ts.map tokRow) .no)), (6, (vI x.1)), (7, (vI x.2))], lm2 173 [], ⟨[], [], .none, 0⟩⟩)
      (fun x => x.1 ≤ s.size ∧ x.2 ≤ ts.length ∧ Pieces resP ((tx s).drop x.1) x.1 (ts.drop x.2)) (fun x => ts.length - x.2) (0, 0) (by kernel_rfl) ⟨Nat.zero_le _, Nat.zero_le _, by simpa using hp⟩ ?_)
    rintro ⟨a, k⟩ ⟨ha, hk, hq⟩
    simp only at ha hk hq
    refine wp_eq2 (X_LexCoversR_eq s _ 0 0 a k) (wp_if2 (fun h => ?_) (fun h => ?_))
    · have h := of_decide_eq_true h
      rw [List.length_map] at h
      have hkl : k < ts.length := by omega
      have hdk : ts.drop k = ts[k] :: ts.drop (k + 1) := List.drop_eq_getElem_cons hkl
      have hrow : (ts.map tokRow)[k]? = some (tokRow ts[k]) := by simp [hkl]
      generalize ht : ts[k] = t at *
      rw [hdk] at hq
      generalize hL : (tx s).drop a = L at *
      cases hq with
      | @cons b x l _ kk v _ hb h1' hh ho hrest =>
        obtain ⟨b1, b2, b3, b4, b5⟩ := one_bound h1'
        have hlen : b.length + (x.length + l.length) = s.size - a := by
          have := congrArg List.length hL
          rw [List.length_drop, tx_len] at this
          simp at this; omega
        have hx : (⟨x.toArray⟩ : ByteArray).size = x.length := rfl
        have hdrop : (tx s).drop (a + b.length) = x ++ l := by rw [← List.drop_drop, hL]; simp
        have hw1 : IntKind.i64.wrap (((a + b.length : Nat) : Int) + ((⟨x.toArray⟩ : ByteArray).size : Int)) = ((a + b.length + x.length : Nat) : Int) := by rw [hx]; exact kw_add (by omega)
        have hw2 : IntKind.i64.wrap ((s.size : Int) - ((⟨x.toArray⟩ : ByteArray).size : Int)) = ((s.size - x.length : Nat) : Int) := by rw [hx, IntKind.wrap_i64]; omega
        have htext : tx (s.extract (a + b.length) (a + b.length + x.length)) = x := by rw [tx_ext_n, hdrop]; simp
        have hgap : tx (s.extract a (a + b.length)) = b := by rw [tx_ext_n, hL]; simp
        refine wp_trow hrow (wp_stage (wp_if2 (fun h => ?_) (fun _ => ?_)))
        · have : (x.length : Int) = 0 := by simpa [hx] using h
          omega
        refine wp_trow hrow (wp_if2 (fun h => ?_) (fun _ => ?_))
        · have := of_decide_eq_true h; simp only at this; omega
        refine wp_trow hrow (wp_if2 (fun h => ?_) (fun _ => ?_))
        · have := of_decide_eq_true h
          rw [hw2] at this; simp only at this; omega
        refine wp_trow hrow (wp_trow hrow ⟨?_, wp_trow hrow (wp_if2 (fun h => ?_) (fun _ => ?_))⟩)
        · rw [hw1]; apply decide_eq_true; simp only; omega
        · rw [hw1, Int.toNat_natCast, Int.toNat_natCast, beq_tx, htext, tok_text] at h
          simp at h
        refine wp_trow hrow (wp_if2 (fun h => ?_) (fun _ => ?_))
        · have := of_decide_eq_true h; simp only at this; omega
        refine wp_trow hrow (wp_if2 (fun h => ?_) (fun _ => ?_))
        · have := of_decide_eq_true h; simp only at this; omega
        have fin : ((((((X_LexCoversR s (ts.map tokRow) 0 0 a k).T.I kk).S ⟨x.toArray⟩).I v).I ((a + b.length : Nat) : Int)).T.K ⟨tm2 173 [(0, (vS (s))), (3, (.slice 4 (ts.map tokRow) .no)), (6, (vI ((↑a : Int)))), (7, (vI ((↑k : Int)))), (8, (vI ((⟨x.toArray⟩ : ByteArray).size : Int)))], lm2 173 [], ⟨[], [], .none, 0⟩⟩).wp Pg cfg0 evp ((fun s_1 => ∃ a' : Nat × Nat, ((a'.1 ≤ s.size ∧ a'.2 ≤ ts.length ∧ Pieces resP ((tx s).drop a'.1) a'.1 (ts.drop a'.2)) ∧ ts.length - a'.2 < ts.length - k) ∧ s_1 = ⟨tm2 173 [(0, (vS (s))), (3, (.slice 4 (ts.map tokRow) .no)), (6, (vI a'.1)), (7, (vI a'.2))], lm2 173 [], ⟨[], [], .none, 0⟩⟩) :: []) (fun x => x = ⟨.ret (vB true), .none, []⟩) := by
          refine wp_eq2 (X_LexCoversRs1_eq s _ 0 0 a k _ _ _ _) (wp_trow hrow ⟨by apply decide_eq_true; simp only; omega, ?_⟩)
          have hg : lexA (s.extract (a : Int).toNat ((a + b.length : Nat) : Int).toNat) = .ok [] := by
            rw [Int.toNat_natCast, Int.toNat_natCast]
            refine lexA_of (by rw [ext_size (by omega)]; omega) ?_ (by simp)
            rw [hgap]; exact .nil hb
          refine wp_Lex1 hg (wp_stage (wp_if2 (fun h => absurd h (by decide)) (fun _ => wp_if2 (fun h => absurd h (by decide)) (fun _ => wp_done ?_))))
          refine wp_eq2 (X_LexCoversRs2_eq s _ 0 0 a k _ _ _ _ _ _ _ _ _ _ _) (wp_trow hrow ?_)
          rw [hw1, kw_succ (by omega)]
          refine wp_done ⟨(a + b.length + x.length, k + 1), ⟨⟨by simp only; omega, by simp only; omega, ?_⟩, by simp only; omega⟩, rfl⟩
          have e : (tx s).drop (a + b.length + x.length) = l := by rw [← List.drop_drop, hdrop]; simp
          simp only [e]
          exact hrest
        refine wp_trow hrow (wp_if2 (fun h => ?_) (fun _ => ?_))
        · refine wp_trow hrow (wp_if2 (fun h2 => ?_) (fun _ => ?_))
          · have hv := b5 (by intro e; subst e; simp at h)
            subst hv
            simp at h2
          · exact wp_done fin
        · exact wp_done fin
    · have h := of_decide_eq_false h
      rw [List.length_map] at h
      have : k = ts.length := by omega
      subst this
      rw [List.drop_length] at hq
      generalize hL : (tx s).drop a = L at *
      cases hq with
      | nil hb =>
        have hg : lexA (s.extract (a : Int).toNat (s.size : Int).toNat) = .ok [] := by
          refine lexA_of (by rw [Int.toNat_natCast, Int.toNat_natCast, ByteArray.size_extract]; omega) ?_ (by simp)
          rw [ext_drop, hL]; exact .nil hb
        exact wp_out ⟨by apply decide_eq_true; omega, wp_Lex1 hg (wp_if2 (fun _ => wp_if2 (fun _ => wp_alive ⟨rfl, rfl⟩) (fun h => absurd h (by decide))) (fun h => absurd h (by decide)))⟩
  · obtain ⟨he, hpl⟩ := lexA_err h1
    refine wp_if2 (fun _ => wp_if2 (fun _ => wp_if2 (fun _ => wp_if2 (fun _ => wp_alive ⟨rfl, rfl⟩) (fun h => ?_)) (fun h => ?_)) (fun h => absurd h (by decide))) (fun h => ?_)
    · have := of_decide_eq_false h; omega
    · have := of_decide_eq_false h; omega
    · rw [ne0 he] at h; cases h

/-! ### LexSplits -/
theorem imax : IntKind.i64.max = 9223372036854775807 := rfl
theorem dis_rows (ts : List Tok) : List.map (fun x => List.map AV.dis x) (ts.map tokRow) = ts.map tokRow := by
  rw [List.map_map]
  rfl
theorem same_nil : evp f_lex_Same [.slice 4 [] .no, .slice 4 [] .full] .none [] = some ⟨.ret (vB true), .none, []⟩ := ac 20 (by kernel_rfl)
theorem len_keys {l m : List Tok} (h : l.map key = m.map key) : l.length = m.length := by
  have := congrArg List.length h
  simpa using this
theorem law_Splits (s t : ByteArray) (hs : s.size ≤ REACH) (ht : t.size ≤ REACH) : evp f_waferlaw03_LexSplits [vS s, vS t] .none [] = some ⟨.ret (vB true), .none, []⟩ := by
  unfold REACH at hs ht
  have hal : ∀ {QD : List (St → Prop)} {Q : St → Prop}, (KT.exB fun b => .call f_waferlaw03_alive [] .none [] ⟨.ret (vB b), .none, []⟩ (.out (.need true (.ret ⟨.ret (vB b), .none, []⟩)))).wp Pg cfg0 evp (Q :: QD) (fun x => x = ⟨.ret (vB true), .none, []⟩) := wp_alive (wp_out ⟨rfl, rfl⟩)
  refine kt3_ev (wp_eq2 (X_LexSplits_eq s t) (wp_Lex (fun ts h1 => ?_) (fun p e h1 => ?_)))
  rotate_left
  · obtain ⟨he, _⟩ := lexA_err h1
    refine wp_Lex (fun us h2 => wp_stage (wp_if2 (fun _ => hal) (fun h => ?_))) (fun p' e' h2 => wp_stage (wp_if2 (fun _ => hal) (fun h => ?_)))
    · rw [ne0 he] at h; cases h
    · rw [ne0 he] at h; cases h
  refine wp_Lex (fun us h2 => wp_stage ?_) (fun p e h2 => wp_stage ?_)
  rotate_left
  · obtain ⟨he, _⟩ := lexA_err h2
    refine wp_if2 (fun _ => hal) (fun _ => wp_if2 (fun _ => hal) (fun h => ?_))
    rw [ne0 he] at h; cases h
  obtain ⟨s1, s2, s3⟩ := lexA_ok h1
  obtain ⟨t1, t2, t3⟩ := lexA_ok h2
  refine wp_if2 (fun _ => hal) (fun _ => wp_if2 (fun _ => hal) (fun _ => wp_if2 (fun _ => hal) (fun hz => wp_if2 (fun _ => hal) (fun hl => wp_done ?_))))
  have hz := of_decide_eq_false hz
  have hl := of_decide_eq_false hl
  rw [List.length_map, List.length_map, IntKind.wrap_i64] at hl
  rw [IntKind.wrap_i64, IntKind.wrap_i64] at hz
  have e10 : (⟨#[10]⟩ : ByteArray).size = 1 := rfl
  have hsz : (s ++ (⟨#[10]⟩ : ByteArray) ++ t).size = s.size + 1 + t.size := by simp [ByteArray.size_append, e10]
  obtain ⟨vs, v1, v2⟩ := t2.shift ((tx s).length + 1)
  have hp : Pieces resP (tx (s ++ (⟨#[10]⟩ : ByteArray) ++ t)) 0 (ts ++ vs) := by
    rw [tx_append, tx_append, List.append_assoc]
    exact s2.append (by rfl) (Pieces.blk (b := [10]) (Blk.cons (by decide) Blk.nil) (by simpa using v1))
  have hvl := len_keys v2
  have hx := lexA_of (by rw [hsz]; omega) hp (by rw [List.length_append]; omega)
  have hkeys : (ts ++ vs).map key = (ts ++ us).map key := by rw [List.map_append, List.map_append, v2]
  have hB1 : (ts ++ vs).length < BIG := by rw [List.length_append]; unfold BIG; omega
  have hB2 : (ts ++ us).length < BIG := by rw [List.length_append]; unfold BIG; omega
  refine wp_eq2 (X_LexSplitss1_eq s t _ _ _ _ _ _) ⟨?_, ?_, wp_Lex1 hx (wp_if2 (fun _ => ?_) (fun h => absurd h (by decide)))⟩
  · apply decide_eq_true; rw [imax, e10]; omega
  · apply decide_eq_true; rw [ByteArray.size_append, e10]; rw [imax]; omega
  have hfin : ∀ {QD : List (St → Prop)}, (KT.branch true (KT.exB fun b1 => .call f_waferlaw03_alive [] .none [] ⟨.ret (vB b1), .none, []⟩ (.need true (.ret ⟨.ret (vB b1), .none, []⟩))) (.need true (.ret ⟨.ret (vB false), .none, []⟩))).wp Pg cfg0 evp QD (fun x => x = ⟨.ret (vB true), .none, []⟩) :=
    wp_if2 (fun _ => wp_alive ⟨rfl, rfl⟩) (fun h => by cases h)
  refine wp_if2 (fun h3 => ?_) (fun h3 => ?_)
  · have h3 : ts = [] := by simpa using h3
    subst h3
    refine wp_if2 (fun h4 => ?_) (fun h4 => ?_)
    · have h4 : us = [] := by simpa using h4
      subst h4
      have hv0 : vs = [] := by simpa using hvl
      subst hv0
      exact ⟨true, same_nil, hfin⟩
    · rw [List.nil_append, dis_rows]
      refine ⟨by rw [Nat.ble_eq]; simp; omega, wp_Same1 hB1 (m := us) (by simpa using hB2) (by simpa using hkeys) hfin⟩
  · refine ⟨by rw [Nat.ble_eq]; simp; omega, ?_⟩
    rw [List.nil_append, dis_rows]
    refine wp_if2 (fun h4 => ?_) (fun h4 => ?_)
    · have h4 : us = [] := by simpa using h4
      subst h4
      exact wp_Same1 hB1 (m := ts) (by simpa using hB2) (by simpa using hkeys) hfin
    · refine ⟨by rw [Nat.ble_eq]; simp; omega, ?_⟩
      rw [dis_rows, ← List.map_append]
      exact wp_Same1 hB1 hB2 hkeys hfin

/-! ### LexBlanks -/
theorem law_Blanks_rest (s : ByteArray) (k : Nat) (x : Int) (ts : List Tok) (q : Array UInt8) (hs : s.size ≤ 4096) (hp : Pieces resP (tx s) 0 ts) (hl : ts.length ≤ 1024) (hk : k < ts.length) (hq : Blk q.toList) (hq1 : sep q.toList = true) (hq2 : q.toList ≠ []) (hq3 : q.size ≤ 100) (i i1 : Int) {QD : List (St → Prop)} :
    ((X_LexBlankss1 s k x (ts.map tokRow) i i1).K ⟨tm2 78 [(0, (vS (s))), (1, (vI (k))), (7, (.slice 4 (ts.map tokRow) .no)), (10, (vS (⟨q⟩ : ByteArray)))], lm2 78 [], ⟨[], [], .none, 0⟩⟩).wp Pg cfg0 evp QD (fun x => x = ⟨.ret (vB true), .none, []⟩) := by
  have hti : ts[k]? = some ts[k] := by simp [hk]
  have hrow : (ts.map tokRow)[k]? = some (tokRow ts[k]) := by simp [hk]
  obtain ⟨us, u1, u2, _⟩ := hp.put hq hq1 hq2 hti
  have hpl := (hp.places ts[k] (by simp)).2
  rw [tx_len] at hpl
  generalize ts[k] = t at *
  have hqs : (⟨q⟩ : ByteArray).size = q.size := rfl
  have hz1 : (s.extract 0 t.at_).size = t.at_ := by rw [ByteArray.size_extract]; omega
  have hz2 : (s.extract t.at_ s.size).size = s.size - t.at_ := by rw [ByteArray.size_extract]; omega
  have e0 : Int.toNat 0 = 0 := rfl
  refine wp_eq2 (X_LexBlankss2_eq s k x _ i i1 q) (wp_trow hrow ⟨by apply decide_eq_true; omega, ?_, wp_trow hrow ⟨by apply decide_eq_true; omega, ?_, ?_, ?_⟩⟩)
  · apply decide_eq_true; rw [e0, Int.toNat_natCast, hz1, hqs]; rw [imax]; omega
  · apply decide_eq_true; rw [e0, Int.toNat_natCast, Int.toNat_natCast, ByteArray.size_append, hz1, hqs, hz2]; rw [imax]; omega
  · apply decide_eq_true; rw [e0, Int.toNat_natCast, Int.toNat_natCast, ByteArray.size_append, ByteArray.size_append, hz1, hqs, hz2]; rw [imax]; omega
  rw [e0, Int.toNat_natCast, Int.toNat_natCast]
  refine wp_if2 (fun _ => ⟨rfl, rfl⟩) (fun h => ?_)
  have h := of_decide_eq_false h
  have hx : lexA (s.extract 0 t.at_ ++ (⟨q⟩ : ByteArray) ++ s.extract t.at_ s.size ++ (⟨q⟩ : ByteArray)) = .ok us := by
    refine lexA_of (by omega) ?_ (by rw [len_keys u2]; exact hl)
    rw [tx_append, tx_append, tx_append, tx_ext, ext_full]
    simpa [tx, List.append_assoc] using u1
  refine wp_Lex1 hx (wp_if2 (fun _ => ?_) (fun h => absurd h (by decide)))
  exact wp_Same1 (by unfold BIG; omega) (by rw [len_keys u2]; unfold BIG; omega) u2.symm ⟨rfl, rfl⟩

theorem law_Blanks (s : ByteArray) (w x : Int) : evp f_waferlaw03_LexBlanks [vS s, vI w, vI x] .none [] = some ⟨.ret (vB true), .none, []⟩ := by
  have hal : ∀ {QD : List (St → Prop)} {Q : St → Prop}, (KT.exB fun b => .call f_waferlaw03_alive [] .none [] ⟨.ret (vB b), .none, []⟩ (.out (.need true (.ret ⟨.ret (vB b), .none, []⟩)))).wp Pg cfg0 evp (Q :: QD) (fun x => x = ⟨.ret (vB true), .none, []⟩) := wp_alive (wp_out ⟨rfl, rfl⟩)
  refine kt3_ev (wp_eq2 (X_LexBlanks_eq s w x) (wp_Lex (fun ts h1 => wp_stage ?_) (fun p e h1 => wp_stage ?_)))
  rotate_left
  · obtain ⟨he, _⟩ := lexA_err h1
    refine wp_if2 (fun _ => hal) (fun h => ?_)
    rw [ne0 he] at h; cases h
  obtain ⟨s1, s2, s3⟩ := lexA_ok h1
  refine wp_if2 (fun _ => hal) (fun _ => wp_if2 (fun _ => hal) (fun hw => wp_if2 (fun _ => hal) (fun hw2 => wp_alive (wp_if2 (fun h => by cases h) (fun _ => wp_done ?_)))))
  have hw := of_decide_eq_false hw
  have hw2 := of_decide_eq_false hw2
  rw [List.length_map] at hw2
  obtain ⟨k, rfl⟩ := Int.eq_ofNat_of_zero_le (show 0 ≤ w by omega)
  have hk : k < ts.length := by omega
  have hb1 : ∀ c : UInt8, Lx.blank c = true → Blk [c] := fun c hc => Blk.cons hc Blk.nil
  refine wp_eq2 (X_LexBlankss1_eq s k x _ 0 0) (wp_stage (wp_if2 (fun _ => wp_done ?_) (fun _ => wp_if2 (fun _ => wp_done ?_) (fun _ => wp_done ?_))))
  · exact law_Blanks_rest s k x ts #[10, 9] s1 s2 s3 hk (Blk.cons (by decide) (hb1 9 (by decide))) (by decide) (by decide) (by decide) 0 0
  · refine law_Blanks_rest s k x ts #[32, 40, 42, 32, 97, 32, 40, 42, 32, 98, 32, 42, 41, 32, 39, 32, 42, 41, 32] s1 s2 s3 hk ?_ (by decide) (by decide) (by decide) 0 0
    refine Blk.cons (by decide) ?_
    have : Blk [40, 42, 32, 97, 32, 40, 42, 32, 98, 32, 42, 41, 32, 39, 32, 42, 41] := by
      refine Blk.remark (fun c hc => by cases hc; decide) (by rfl) ?_
      simp [rem_cons, rem_nil, Lx.opens, Lx.closes]
    exact this.append (hb1 32 (by decide))
  · exact law_Blanks_rest s k x ts #[32] s1 s2 s3 hk (hb1 32 (by decide)) (by decide) (by decide) (by decide) 0 0

/-! ### LexBack -/
theorem law_Back (s : ByteArray) : evp f_waferlaw03_LexBack [vS s] .none [] = some ⟨.ret (vB true), .none, []⟩ := by
  refine kt3_ev (wp_eq2 (X_LexBack_eq s) (wp_Lex (fun ts h1 => ?_) (fun p e h1 => ?_)))
  · obtain ⟨s1, s2, s3⟩ := lexA_ok h1
    have hlen := s2.join_len
    rw [tx_len] at hlen
    have hj := c_Join (ts := ts) (by omega) (by unfold joinT; omega)
    refine wp_if2 (fun h => absurd h (by decide)) (fun _ => ⟨_, hj, wp_if2 (fun _ => wp_alive ⟨rfl, rfl⟩) (fun h => ?_)⟩)
    have h := of_decide_eq_false h
    obtain ⟨us, u1, u2⟩ := s2.join 0
    have hx : lexA ⟨(joinT ts).toArray⟩ = .ok us := lexA_of (by omega) (by rw [tok_text]; exact u1) (by rw [len_keys u2]; exact s3)
    refine wp_Lex1 hx (wp_if2 (fun _ => ?_) (fun h => absurd h (by decide)))
    exact wp_Same1 (by unfold BIG; omega) (by rw [len_keys u2]; unfold BIG; omega) u2.symm (wp_if2 (fun _ => wp_alive ⟨rfl, rfl⟩) (fun h => by cases h))
  · obtain ⟨he, _⟩ := lexA_err h1
    refine wp_if2 (fun _ => wp_if2 (fun _ => wp_alive ⟨rfl, rfl⟩) (fun h => absurd h (by decide))) (fun h => ?_)
    rw [ne0 he] at h; cases h
end Go.Proofs
