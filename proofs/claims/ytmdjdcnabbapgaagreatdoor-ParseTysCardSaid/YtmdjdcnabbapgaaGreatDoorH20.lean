/- Texts of this proof folded into one: Z8 Z10 U5 U6. -/
import Derived.Test.YtmdjdcnabbapgaaGreatDoorH16
import Derived.Test.YtmdjdcnabbapgaaGreatDoorH15
import Derived.Test.YtmdjdcnabbapgaaGreatDoorH10
import Derived.Test.YtmdjdcnabbapgaaGreatDoorH18
import Derived.Test.YtmdjdcnabbapgaaGreatDoorH19
section
/- LEX: what the document's functions answer, part 2: next, Lex; the law LexLexes -/
open Go Go.Eng Go.Lx
namespace Go.Proofs
set_option linter.unusedVariables false
set_option linter.unusedSimpArgs false
set_option maxRecDepth 100000
theorem high_res {c : UInt8} {l : T} (h : high c = true) : resP (c :: l) = false := by
  rw [Bool.eq_false_iff]
  intro hr
  have hw : ∀ w ∈ words, (w.head?.map low).getD false = true := by decide
  unfold resP at hr
  rw [List.any_eq_true] at hr
  obtain ⟨w, hm, he⟩ := hr
  have he := of_decide_eq_true he
  have := hw w hm
  rw [← he] at this
  have hl : low c = true := by simpa using this
  rw [low_high hl] at h; cases h
/-- what ref's next comes to -/
def rV (s : ByteArray) (a : Nat) (x : Except Nat Tk) (r : CRes) : Prop :=
  match x with
  | .ok t => r = ⟨.ret (oneV s a (.ok t)), .none, []⟩
  | .error e => ∃ (k n m : Int) (b : ByteArray), r = ⟨.ret (.tuple [.agg [vI k, vS b, vI n, vI m], vI e]), .none, []⟩
theorem rV_err {s : ByteArray} {a : Nat} {e : Nat} {x : Except Nat Tk} {k n m : Int} {b : ByteArray} (h : x = .error e) : rV s a x ⟨.ret (.tuple [.agg [vI k, vS b, vI n, vI m], vI e]), .none, []⟩ := by
  subst h; exact ⟨_, _, _, _, rfl⟩
theorem rV_ok {s : ByteArray} {a k n v : Nat} {x : Except Nat Tk} (h : x = .ok (k, n, v)) : rV s a x ⟨.ret (.tuple [.agg [vI k, vS (s.extract a (a + n)), vI v, vI a], vI 0]), .none, []⟩ := by
  subst h; rfl
theorem y_rnextK (s : ByteArray) (a : Nat) (q i : Int) : (X_rnext s a).K ⟨tm2 126 [(0, (vS (s))), (1, (vI ((↑a : Int)))), (4, (.lp 4 0 0)), (6, (.lp 6 0 0)), (7, (vI (i)))], lm2 126 [(4, (0, [(vI (0)), (vS ((⟨#[]⟩ : ByteArray))), (vI (0)), (vI (0))])), (6, (0, [(vI (q)), (vS ((⟨#[]⟩ : ByteArray))), (vI (0)), (vI ((↑a : Int)))]))], ⟨[], [], .none, 0⟩⟩ = Y_rnextK s a q i := by delta Y_rnextK X_rnext; rfl
theorem y_rnextD (s : ByteArray) (a : Nat) (y : UInt8) (b : Bool) (y1 : UInt8) (b1 : Bool) (y2 y3 : UInt8) (b2 : Bool) : ((((((((X_rnext s a).T.Y y).T.B b).T.F.Y y1).T.B b1).T.F.Y y2).T.F.Y y3).T.B b2).T.T = Y_rnextD s a y b y1 b1 y2 y3 b2 := by delta Y_rnextD X_rnext; rfl
theorem rnext_fin {s : ByteArray} {a : Nat} {q n : Nat} {x : Except Nat Tk} {QD : List (St → Prop)} (hn : a + n ≤ s.size) (h : x = if n = 0 then .error 10 else if q ≠ 6 ∧ 32 < n then .error 12 else .ok (q, n, 0)) :
    ((X_rnext s a).K ⟨tm2 126 [(0, (vS (s))), (1, (vI ((↑a : Int)))), (4, (.lp 4 0 0)), (6, (.lp 6 0 0)), (7, (vI ((a + n : Nat) : Int)))], lm2 126 [(4, (0, [(vI (0)), (vS ((⟨#[]⟩ : ByteArray))), (vI (0)), (vI (0))])), (6, (0, [(vI (q)), (vS ((⟨#[]⟩ : ByteArray))), (vI (0)), (vI ((↑a : Int)))]))], ⟨[], [], .none, 0⟩⟩).wp Pg cfg0 evp QD (rV s a x) := by
  refine wp_eq2 (y_rnextK s a q _) (wp_eq2 (X_rnextK_eq s a q _) ⟨by apply decide_eq_true; omega, wp_if2 (fun h0 => ?_) (fun h0 => ?_)⟩)
  · have h0 : ((a + n : Nat) : Int) = (a : Int) := by simpa using h0
    rw [if_pos (by omega)] at h
    exact ⟨rfl, rV_err h⟩
  · have h0 : ¬ ((a + n : Nat) : Int) = (a : Int) := by simpa using h0
    rw [if_neg (by omega)] at h
    refine wp_if2 (fun h6 => ?_) (fun h6 => ?_)
    · have h6 : ¬ (q : Int) = 6 := by simpa using h6
      rw [Int.toNat_natCast, Int.toNat_natCast, ext_size hn]
      refine wp_if2 (fun h3 => ?_) (fun h3 => ?_)
      · have h3 := of_decide_eq_true h3
        rw [if_pos ⟨by omega, by omega⟩] at h
        exact ⟨rfl, rV_err h⟩
      · have h3 := of_decide_eq_false h3
        rw [if_neg (by omega)] at h
        exact ⟨rfl, rV_ok h⟩
    · have h6 : (q : Int) = 6 := by simpa using h6
      rw [if_neg (by omega)] at h
      exact ⟨rfl, rV_ok h⟩
def numT (s : ByteArray) (a i : Nat) : KT :=
  .out (.need (decide (0 ≤ (a : Int) ∧ (a : Int) ≤ (i : Int) ∧ (i : Int) ≤ (s.size : Int)))
    (.exI fun i1 => .exB fun b4 => .call f_waferref03_number [vS (s.extract (a : Int).toNat (i : Int).toNat)] .none [] ⟨.ret (.tuple [vI i1, vB b4]), .none, []⟩
      (.branch (!b4) (.out (.need true (.ret ⟨.ret (.tuple [.agg [vI 0, vS ⟨#[]⟩, vI 0, vI a], vI 1]), .none, []⟩)))
        (.need (decide (0 ≤ (a : Int) ∧ (a : Int) ≤ (i : Int) ∧ (i : Int) ≤ (s.size : Int)))
          (.out (.need true (.ret ⟨.ret (.tuple [.agg [vI 4, vS (s.extract (a : Int).toNat (i : Int).toNat), vI i1, vI a], vI 0]), .none, []⟩))))))
)
theorem c_rnext {s : ByteArray} {a : Nat} (hs : s.size ≤ 4096) (ha : a < s.size) : ∃ r, evp f_waferref03_next [vS s, vI a] .none [] = some r ∧ rV s a (one resP ((tx s).drop a)) r := by
  have hB : s.size < BIG := by unfold BIG; omega
  obtain ⟨c, r, hd, hc, hr⟩ := tx_at ha
  have hlen : r.length + 1 = s.size - a := by have e := congrArg List.length hd; rw [List.length_drop, tx_len] at e; simp at e; omega
  refine kt3_ex (wp_eq2 (X_rnext_eq s a) (wp_stage (wp_at hc ⟨_, c_rlow c, ?_⟩)))
  rw [hd]
  -- words
  have hword : low c = true ∨ high c = true → one resP (c :: r) = if span wordB (c :: r) = 0 then .error 10 else if (if high c then 2 else if resP ((c :: r).take (span wordB (c :: r))) then 3 else 1) ≠ 6 ∧ 32 < span wordB (c :: r) then .error 12 else .ok (if high c then 2 else if resP ((c :: r).take (span wordB (c :: r))) then 3 else 1, span wordB (c :: r), 0) := by
    intro hlh
    have hw : wordB c = true := by unfold wordB; rcases hlh with h | h <;> simp [h]
    have h0 : span wordB (c :: r) ≠ 0 := by simp [span, hw]
    have hk : (if high c then 2 else if resP ((c :: r).take (span wordB (c :: r))) then 3 else 1) ≠ 6 := by split <;> (try split) <;> omega
    rw [if_neg h0]
    unfold one
    have : (low c || high c) = true := by rcases hlh with h | h <;> simp [h]
    simp only [this, if_true]
    by_cases h32 : 32 < span wordB (c :: r)
    · rw [if_pos h32]; exact (if_pos ⟨hk, h32⟩).symm
    · rw [if_neg h32]; exact (if_neg fun h => h32 h.2).symm
  have hspan := span_drop wordB s a (Nat.le_of_lt ha)
  have hrun := c_rrun true hB (Nat.le_of_lt ha)
  rw [show runB true = wordB from rfl] at hrun
  rw [hd] at hspan hrun
  have hresA : ∀ n, evp f_waferref02_Reserved [vS (s.extract (a : Int).toNat ((a + n : Nat) : Int).toNat)] .none [] = some ⟨.ret (vB (resP ((c :: r).take n))), .none, []⟩ := fun n => by
    have e : tx (s.extract (a : Int).toNat ((a + n : Nat) : Int).toNat) = (c :: r).take n := by rw [Int.toNat_natCast, Int.toNat_natCast, tx_ext_n, hd]
    rw [c_rReserved, e]
  have hhr : high c = true → 1 ≤ span wordB (c :: r) → resP ((c :: r).take (span wordB (c :: r))) = false := fun h1 h2 => by
    cases hsp : span wordB (c :: r) with
    | zero => omega
    | succ n => rw [List.take_succ_cons]; exact high_res h1
  have hpos : low c = true ∨ high c = true → 1 ≤ span wordB (c :: r) := by
    intro hlh
    have hw : wordB c = true := by unfold wordB; rcases hlh with h | h <;> simp [h]
    simp [span, hw]
  refine wp_if2 (fun hl => ?_) (fun hl => ?_)
  · have hfin := rnext_fin (s := s) (a := a) (QD := []) hspan (hword (.inl hl))
    have hh := low_high hl
    rw [hh] at hfin
    refine ⟨_, hrun, wp_stage (wp_at hc ⟨_, c_rhigh c, wp_if2 (fun h => by rw [hh] at h; cases h) (fun _ => wp_done (wp_eq2 (X_rnexts1_eq s a c _ _ 1) ⟨by apply decide_eq_true; omega, _, hresA _, wp_if2 (fun h3 => wp_done ?_) (fun h3 => wp_done ?_)⟩))⟩)⟩
    · rw [h3] at hfin; exact hfin
    · rw [h3] at hfin; exact hfin
  refine wp_at hc ⟨_, c_rhigh c, wp_if2 (fun hh => ?_) (fun hh => ?_)⟩
  · have hfin := rnext_fin (s := s) (a := a) (QD := []) hspan (hword (.inr hh))
    rw [hh] at hfin
    have hrf := hhr hh (hpos (.inr hh))
    refine ⟨_, hrun, wp_stage (wp_at hc ⟨_, c_rhigh c, wp_if2 (fun _ => wp_done (wp_eq2 (X_rnexts2_eq s a c _ c _ _ 2) ⟨by apply decide_eq_true; omega, _, hresA _, wp_if2 (fun h3 => ?_) (fun h3 => wp_done hfin)⟩)) (fun h => by rw [hh] at h; cases h)⟩)⟩
    rw [hrf] at h3; cases h3
  refine wp_at hc ?_
  rw [c39]
  refine wp_if2 (fun hq => ?_) (fun hq => ?_)
  · have hg : digit c = false := by
      have : c = 39 := by simpa using hq
      subst this; decide
    have hone : one resP (c :: r) = if !(r.head?.map low).getD false then .error 10 else if 32 < span tyvB r + 1 then .error 12 else .ok (5, span tyvB r + 1, 0) := by
      unfold one
      simp only [hl, hh, hg, hq, Bool.or_false, Bool.false_eq_true, if_false, if_true]
    rw [kw_succ' (by omega)]
    refine wp_stage (wp_if2 (fun hz => ?_) (fun hz => ?_))
    · have hz := of_decide_eq_true hz
      have hr0 : r = [] := by rw [hr]; exact List.drop_eq_nil_of_le (by rw [tx_len]; omega)
      refine wp_out (wp_out ⟨rfl, rV_err ?_⟩)
      rw [hone, hr0]; rfl
    · have hz := of_decide_eq_false hz
      cases hrr : r with
      | nil => rw [hrr] at hlen; simp at hlen; omega
      | cons d r' =>
        have hd2 := hr.symm.trans hrr
        obtain ⟨_, hc2, _⟩ := tx_of hd2
        rw [hrr] at hone
        refine wp_at hc2 ⟨_, c_rlow d, wp_if2 (fun hb => ?_) (fun hb => ?_)⟩
        · have hb : low d = false := by simpa using hb
          refine wp_out (wp_out ⟨rfl, rV_err ?_⟩)
          rw [hone]; simp [hb]
        · have hb : low d = true := by simpa using hb
          have hn := span_drop tyvB s (a + 1) (by omega)
          have h3 := c_rrun false hB (a := a + 1) (by omega)
          rw [show runB false = tyvB from rfl] at h3
          rw [← hr, hrr] at hn h3
          refine wp_done (wp_eq2 (X_rnexts3_eq s a c _ c _ c) ?_)
          rw [kw_succ' (by omega)]
          refine ⟨_, h3, wp_done ?_⟩
          have e : a + 1 + span tyvB (d :: r') = a + (span tyvB (d :: r') + 1) := by omega
          rw [e] at hn ⊢
          refine rnext_fin hn ?_
          rw [hone]
          simp only [List.head?_cons, Option.map_some, Option.getD_some, hb, Bool.not_true, Bool.false_eq_true, if_false]
          by_cases h32 : 32 < span tyvB (d :: r') + 1
          · simp [h32]
          · simp [h32]
  refine wp_at hc ⟨_, c_rdigit c, wp_if2 (fun hg => ?_) (fun hg => ?_)⟩
  · have hn := span_drop digit s a (by omega)
    rw [hd] at hn
    have hall : ∀ x ∈ (c :: r).take (span digit (c :: r)), digit x = true := fun x hx => span_all x hx
    have hone : one resP (c :: r) = match numFrom 0 ((c :: r).take (span digit (c :: r))) with
        | none => .error 1
        | some v => .ok (4, span digit (c :: r), v) := by
      unfold one
      simp only [hl, hh, hg, Bool.or_false, Bool.false_eq_true, if_false, if_true]
      cases numFrom 0 ((c :: r).take (span digit (c :: r))) <;> rfl
    rw [hone]
    have hd' := hd
    have hspd : span digit ((tx s).drop a) = span digit (c :: r) := by rw [hd]
    generalize span digit (c :: r) = n at *
    have et : tx (s.extract (a : Int).toNat ((a + n : Nat) : Int).toNat) = (c :: r).take n := by rw [Int.toNat_natCast, Int.toNat_natCast, tx_ext_n, hd]
    have hnum := c_rnumber (s := s.extract (a : Int).toNat ((a + n : Nat) : Int).toNat) (by rw [Int.toNat_natCast, Int.toNat_natCast, ByteArray.size_extract]; unfold BIG; omega) (by rw [et]; exact hall)
    rw [et] at hnum
    refine wp_eq2 (y_rnextD s a c _ c _ c c _) (loop3 (fun i : Nat => ⟨tm2 126 [(0, (vS (s))), (1, (vI ((↑a : Int)))), (4, (.lp 4 0 0)), (6, (.lp 6 0 0)), (7, (vI i))], lm2 126 [(4, (0, [(vI (0)), (vS ((⟨#[]⟩ : ByteArray))), (vI (0)), (vI (0))])), (6, (0, [(vI (0)), (vS ((⟨#[]⟩ : ByteArray))), (vI (0)), (vI ((↑a : Int)))]))], ⟨[], [], .none, 0⟩⟩)
      (fun i => a ≤ i ∧ i ≤ s.size ∧ i + span digit ((tx s).drop i) = a + n) (fun i => s.size - i) a (by kernel_rfl) ⟨Nat.le_refl _, Nat.le_of_lt ha, by rw [hspd]⟩ ?_)
    rintro i ⟨h1, h2, h3⟩
    have fin : i = a + n → ∀ Q1 Q2 : St → Prop, (numT s a i).wp Pg cfg0 evp [Q1, Q2] (rV s a (match numFrom 0 ((c :: r).take n) with | none => .error 1 | some v => .ok (4, n, v))) := by
      intro hi Q1 Q2
      subst hi
      unfold numT
      cases hv : numFrom 0 ((c :: r).take n) with
      | none =>
        rw [hv] at hnum
        exact wp_out ⟨by apply decide_eq_true; omega, _, _, hnum, wp_if2 (fun _ => wp_out ⟨rfl, rV_err rfl⟩) (fun h => absurd h (by decide))⟩
      | some v =>
        rw [hv] at hnum
        exact wp_out ⟨by apply decide_eq_true; omega, _, _, hnum, wp_if2 (fun h => absurd h (by decide)) (fun _ => ⟨by apply decide_eq_true; omega, wp_out ⟨rfl, rV_ok rfl⟩⟩)⟩
    refine wp_eq2 (X_rnextDR_eq s a c _ c _ c c _ i) (wp_if2 (fun h => ?_) (fun h => ?_))
    · have h := of_decide_eq_true h
      obtain ⟨x, rx, hdx, hcx, hrx⟩ := tx_at (s := s) (i := i) (by omega)
      rw [hdx, span] at h3
      refine wp_at hcx ⟨_, c_rdigit x, wp_if2 (fun hb => ?_) (fun hb => ?_)⟩
      · rw [if_pos hb, hrx] at h3
        rw [kw_succ' (by omega)]
        exact wp_done ⟨i + 1, ⟨⟨by omega, by omega, by omega⟩, by omega⟩, rfl⟩
      · rw [if_neg (by rw [hb]; decide)] at h3
        exact fin (by omega) _ _
    · have h := of_decide_eq_false h
      have hi : i = s.size := by omega
      rw [List.drop_eq_nil_of_le (by rw [tx_len]; omega)] at h3
      exact fin (by simpa [span] using h3) _ _
  · have hone : one resP (c :: r) = if two (c :: r) then .ok (6, 2, 0) else if marks.contains c then .ok (6, 1, 0) else .error 10 := by
      unfold one
      simp only [hl, hh, hg, hq, Bool.or_false, Bool.false_eq_true, if_false]
    have hm := c_rmark hB hd
    refine ⟨_, hm, wp_done ?_⟩
    by_cases h2 : two (c :: r) = true
    · rw [if_pos h2]
      have hr1 : 1 ≤ r.length := by
        rw [two_eq] at h2
        cases r with
        | nil => simp at h2
        | cons d r => simp
      have e : IntKind.i64.wrap ((a : Int) + 2) = ((a + 2 : Nat) : Int) := kw_two (by omega)
      rw [e]
      exact rnext_fin (n := 2) (by omega) (by rw [hone, if_pos h2]; rfl)
    · rw [if_neg h2]
      by_cases hmk : marks.contains c = true
      · rw [if_pos hmk]
        have e : IntKind.i64.wrap ((a : Int) + 1) = ((a + 1 : Nat) : Int) := kw_succ' (by omega)
        rw [e]
        exact rnext_fin (n := 1) (by omega) (by rw [hone, if_neg h2, if_pos hmk]; rfl)
      · rw [if_neg hmk]
        have e : IntKind.i64.wrap ((a : Int) + 0) = ((a + 0 : Nat) : Int) := by rw [IntKind.wrap_i64]; omega
        rw [e]
        exact rnext_fin (n := 0) (by omega) (by rw [hone, if_neg h2, if_neg hmk]; rfl)
end Go.Proofs
end

section
/- LEX: the document's Lex; the law LexLexes -/
open Go Go.Eng Go.Lx
namespace Go.Proofs
set_option linter.unusedVariables false
set_option linter.unusedSimpArgs false
set_option maxRecDepth 100000
/-- what is left to do, blanks being gone over -/
def lxS (b : Bool) (l : T) (a cnt : Nat) : Except (Nat × Nat) (List Tok) :=
  match b with
  | false => .error (a, 10)
  | true => match l with
    | [] => .ok []
    | c :: r => match one resP (c :: r) with
      | .error e => .error (a, e)
      | .ok (k, n, v) => if cnt = 1024 then .error (a, 3) else (lx resP (r.drop (n - 1)) (a + n) (cnt + 1)).map (⟨k, (c :: r).take n, v, a⟩ :: ·)
theorem lx_lxS (l : T) (a cnt : Nat) : lx resP l a cnt = lxS (skp l).2 (l.drop (skp l).1) (a + (skp l).1) cnt := by
  rw [lx_eq]
  unfold lxS
  cases (skp l).2 with
  | false => rfl
  | true =>
    simp only
    cases l.drop (skp l).1 with
    | nil => rfl
    | cons c r =>
      simp only
      cases one resP (c :: r) with
      | error e => rfl
      | ok t => rfl
theorem y_rLex (s : ByteArray) (i : Int) (b : Bool) : (((X_rLex s).F.I i).B b).T = Y_rLex s i b := by delta Y_rLex X_rLex; rfl
theorem c_rLex (s : ByteArray) : evp f_waferref03_Lex [vS s] .none [] = some ⟨.ret (lexV (lexA s)), .none, []⟩ := by
  refine kt3_ev (wp_eq2 (X_rLex_eq s) (wp_if2 (fun h => ?_) (fun h => ?_)))
  · have h := of_decide_eq_true h
    refine ⟨rfl, ret_eq ?_⟩
    unfold lexA; rw [if_pos (by omega)]; rfl
  have h := of_decide_eq_false h
  have hs : s.size ≤ 4096 := by omega
  have hB : s.size < BIG := by unfold BIG; omega
  have hA : lexA s = lx resP (tx s) 0 0 := by unfold lexA; rw [if_neg (by omega)]
  rw [hA]
  have hX := lx_lxS (tx s) 0 0
  have hsk := c_rskip (s := s) (a := 0) hB (Nat.zero_le _)
  rw [List.drop_zero] at hsk
  have hb0 := skp_bound (l := tx s)
  rw [tx_len] at hb0
  generalize hXX : lx resP (tx s) 0 0 = X
  rw [hXX] at hX
  rw [Nat.zero_add] at hX hsk
  have hX2 : X = ahead [] (lxS (skp (tx s)).2 ((tx s).drop (skp (tx s)).1) (skp (tx s)).1 0) := by
    rw [hX]; cases lxS (skp (tx s)).2 ((tx s).drop (skp (tx s)).1) (skp (tx s)).1 0 <;> rfl
  refine ⟨_, _, hsk, wp_eq2 (y_rLex s _ _) (loop3 (fun x : List Tok × Nat × Bool => ⟨tm2 57 [(0, vS s), (5, slY x.1), (6, vI x.2.1), (7, vB x.2.2)], lm2 57 [], ⟨[], [], .none, 0⟩⟩)
    (fun x => x.2.1 ≤ s.size ∧ x.1.length ≤ 1024 ∧ X = ahead x.1 (lxS x.2.2 ((tx s).drop x.2.1) x.2.1 x.1.length)) (fun x => 1024 - x.1.length) ([], (skp (tx s)).1, (skp (tx s)).2) (by kernel_rfl) ⟨hb0, Nat.zero_le _, hX2⟩ ?_)⟩
  rintro ⟨ts, i, b⟩ ⟨h1, h2, h3⟩
  simp only at h1 h2 h3
  -- a round, told for both forms of the list
  have hend : (b = false → X = .error (i, 10)) ∧ (b = true → ¬ i < s.size → X = .ok ts) := by
    refine ⟨fun hb => ?_, fun hb hi => ?_⟩
    · subst hb; rw [h3]; rfl
    · subst hb
      rw [List.drop_eq_nil_of_le (by rw [tx_len]; omega)] at h3
      rw [h3]; simp [lxS, ahead]
  have hnext : b = true → i < s.size → ∃ r, evp f_waferref03_next [vS s, vI i] .none [] = some r ∧
      ((∃ (e : Nat) (k n m : Int) (t : ByteArray), e ≠ 0 ∧ r = ⟨.ret (.tuple [.agg [vI k, vS t, vI n, vI m], vI e]), .none, []⟩ ∧ X = .error (i, e)) ∨
       (∃ (k n v : Nat) (c : UInt8) (q : T), r = ⟨.ret (.tuple [.agg [vI k, vS (s.extract i (i + n)), vI v, vI i], vI 0]), .none, []⟩ ∧ (tx s).drop i = c :: q ∧ 1 ≤ n ∧ i + n ≤ s.size ∧
          (ts.length = 1024 → X = .error (i, 3)) ∧
          (ts.length < 1024 → X = ahead (ts ++ [⟨k, (c :: q).take n, v, i⟩]) (lxS (skp ((tx s).drop (i + n))).2 ((tx s).drop (i + n + (skp ((tx s).drop (i + n))).1)) (i + n + (skp ((tx s).drop (i + n))).1) (ts.length + 1))))) := by
    intro hb hi
    subst hb
    obtain ⟨c, q, hd, hc, hr⟩ := tx_at hi
    obtain ⟨r, h4, h5⟩ := c_rnext hs hi
    refine ⟨r, h4, ?_⟩
    rw [hd] at h5 h3
    cases hx : one resP (c :: q) with
    | error e =>
      rw [hx] at h5
      obtain ⟨k, n, m, t, h6⟩ := h5
      refine .inl ⟨e, k, n, m, t, one_err0 hx, h6, ?_⟩
      rw [h3]; simp only [lxS, hx]; rfl
    | ok t =>
      obtain ⟨k, n, v⟩ := t
      rw [hx] at h5
      obtain ⟨b1, b2, _⟩ := one_bound hx
      have hlen : q.length + 1 = s.size - i := by have e := congrArg List.length hd; rw [List.length_drop, tx_len] at e; simp at e; omega
      simp only [List.length_cons] at b2
      refine .inr ⟨k, n, v, c, q, h5, hd, b1, by omega, fun hl => ?_, fun hl => ?_⟩
      · rw [h3]; simp only [lxS, hx]; rw [if_pos hl]; rfl
      · rw [h3]; simp only [lxS, hx]
        rw [if_neg (by omega), ahead_map, drop_pred c q b1, ← hd, List.drop_drop]
        congr 1
        rw [lx_lxS, List.drop_drop]
        simp only [lxS]
  cases ts with
  | nil =>
    refine wp_eq2 (X_rLexR0_eq s _ _ i b) (wp_if2 (fun hb => ?_) (fun hb => ?_))
    · refine wp_if2 (fun hi => ?_) (fun hi => ?_)
      · have hi := of_decide_eq_true hi
        obtain ⟨r, h4, h5⟩ := hnext hb (by omega)
        rcases h5 with ⟨e, k, n, m, t, he, rfl, h6⟩ | ⟨k, n, v, c, q, rfl, hd, b1, b2, h6, h7⟩
        · refine ⟨_, _, _, _, _, h4, wp_if2 (fun _ => wp_out ⟨rfl, ret_eq ?_⟩) (fun hz => ?_)⟩
          · rw [h6]; rfl
          · rw [ne0 he] at hz; cases hz
        · refine ⟨_, _, _, _, _, h4, wp_if2 (fun hz => absurd hz (by decide)) (fun _ => wp_if2 (fun hq => absurd hq (by decide)) (fun _ => ⟨by decide, ?_⟩))⟩
          have hsk2 := c_rskip (s := s) (a := i + n) hB b2
          have hbn := skp_bound (l := (tx s).drop (i + n))
          rw [List.length_drop, tx_len] at hbn
          have e1 : IntKind.i64.wrap ((i : Int) + ((s.extract i (i + n)).size : Int)) = ((i + n : Nat) : Int) := by rw [ext_size b2]; exact kw_add (by omega)
          simp only [e1]
          refine ⟨_, _, hsk2, wp_done ⟨([⟨k, (c :: q).take n, v, i⟩], i + n + (skp ((tx s).drop (i + n))).1, (skp ((tx s).drop (i + n))).2), ⟨⟨by simp only; omega, by simp, ?_⟩, by simp⟩, ?_⟩⟩
          · exact h7 (by simp)
          · rw [show slY [⟨k, (c :: q).take n, v, i⟩] = .slice 4 [tokRow ⟨k, (c :: q).take n, v, i⟩] .yes from rfl, ← row_eq hd]; try rfl
      · have hi := of_decide_eq_false hi
        refine wp_out (wp_if2 (fun hz => by rw [hb] at hz; cases hz) (fun _ => ⟨rfl, ret_eq ?_⟩))
        rw [hend.2 hb (by omega)]; rfl
    · refine wp_out (wp_if2 (fun _ => ⟨rfl, ret_eq ?_⟩) (fun hz => by rw [hb] at hz; cases hz))
      rw [hend.1 hb]; rfl
  | cons t0 ts =>
    refine wp_eq2 (X_rLexR_eq s _ _ (tokRow t0 :: ts.map tokRow) i b) (wp_if2 (fun hb => ?_) (fun hb => ?_))
    · refine wp_if2 (fun hi => ?_) (fun hi => ?_)
      · have hi := of_decide_eq_true hi
        obtain ⟨r, h4, h5⟩ := hnext hb (by omega)
        have hll : (tokRow t0 :: ts.map tokRow).length = (t0 :: ts).length := by simp
        rcases h5 with ⟨e, k, n, m, t, he, rfl, h6⟩ | ⟨k, n, v, c, q, rfl, hd, b1, b2, h6, h7⟩
        · refine ⟨_, _, _, _, _, h4, wp_if2 (fun _ => wp_out ⟨rfl, ret_eq ?_⟩) (fun hz => ?_)⟩
          · rw [h6]; rfl
          · rw [ne0 he] at hz; cases hz
        · refine ⟨_, _, _, _, _, h4, wp_if2 (fun hz => absurd hz (by decide)) (fun _ => wp_if2 (fun hq => ?_) (fun hq => ?_))⟩
          · have hq : ((tokRow t0 :: ts.map tokRow).length : Int) = 1024 := by simpa using hq
            rw [hll] at hq
            refine wp_out ⟨rfl, ret_eq ?_⟩
            rw [h6 (by omega)]; rfl
          · have hq : ¬ ((tokRow t0 :: ts.map tokRow).length : Int) = 1024 := by simpa using hq
            rw [hll] at hq
            have hl : (t0 :: ts).length < 1024 := by omega
            refine ⟨by rw [Nat.ble_eq]; simp at hl ⊢; omega, ?_⟩
            have hsk2 := c_rskip (s := s) (a := i + n) hB b2
            have hbn := skp_bound (l := (tx s).drop (i + n))
            rw [List.length_drop, tx_len] at hbn
            have e1 : IntKind.i64.wrap ((i : Int) + ((s.extract i (i + n)).size : Int)) = ((i + n : Nat) : Int) := by rw [ext_size b2]; exact kw_add (by omega)
            simp only [e1]
            refine ⟨_, _, hsk2, wp_done ⟨(t0 :: ts ++ [⟨k, (c :: q).take n, v, i⟩], i + n + (skp ((tx s).drop (i + n))).1, (skp ((tx s).drop (i + n))).2), ⟨⟨by simp only; omega, by simp at hl ⊢; omega, ?_⟩, by simp at hl ⊢; omega⟩, ?_⟩⟩
            · simp only [List.length_append, List.length_cons, List.length_nil]
              exact h7 hl
            · simp only [slY_snoc]
              rw [← row_eq hd]; try rfl
      · have hi := of_decide_eq_false hi
        refine wp_out (wp_if2 (fun hz => by rw [hb] at hz; cases hz) (fun _ => ⟨rfl, ret_eq ?_⟩))
        rw [hend.2 hb (by omega)]; rfl
    · refine wp_out (wp_if2 (fun _ => ⟨rfl, ret_eq ?_⟩) (fun hz => by rw [hb] at hz; cases hz))
      rw [hend.1 hb]; rfl
theorem wp_rLex {s : ByteArray} {K : List (List AV) → Int → Int → KT} {QD : List (St → Prop)} {QR : CRes → Prop} (hok : ∀ ts, lexA s = .ok ts → (K (ts.map tokRow) 0 0).wp Pg cfg0 evp QD QR) (herr : ∀ p e, lexA s = .error (p, e) → (K [] p e).wp Pg cfg0 evp QD QR) :
    (KT.exR fun l => .exI fun i => .exI fun i1 => .call f_waferref03_Lex [vS s] .none [] ⟨.ret (.tuple [.slice 4 l .no, vI i, vI i1]), .none, []⟩ (K l i i1)).wp Pg cfg0 evp QD QR := by
  have h := c_rLex s
  cases hx : lexA s with
  | ok ts => rw [hx] at h; exact ⟨_, _, _, h, hok ts hx⟩
  | error e => obtain ⟨p, e⟩ := e; rw [hx] at h; exact ⟨_, _, _, h, herr p e hx⟩
end Go.Proofs
end

section
/- PARSE: what a text is as a type: the program's and the document's answer -/
set_option linter.unusedVariables false
set_option linter.unusedSimpArgs false
set_option maxRecDepth 100000
open Go Go.Eng Go.Pa
open Go.Lx (T Tok)
namespace Go.Proofs
theorem ktc7_is {f : FuncId} {args : List AV} {H : Heap} {r : CRes} (h : (ktc7 f args H).wp Pg cfg0 evp [] (fun x => x = r)) : evp f args .none H = some r := ktc7_ev h
/-- What a text is as a type. -/
def tyW (s : ByteArray) : Except (Nat × Nat) Ty :=
  match lexA s with
  | .error x => .error x
  | .ok ts => match whole s.size (pTy s.size (8 * ts.length + 7) ts) with
    | .error x => .error x
    | .ok t => if 100 < t.dep then .error (0, 4) else .ok t
def tyAns : Except (Nat × Nat) Ty → AV
  | .error (p, e) => .tuple [ty0, vI p, vI e]
  | .ok t => .tuple [tyV t, vI 0, vI 0]
theorem low_hp {l : List Tok} {z e p d : Int} {n : Nat} : lowss n [hp5 (tks l) z e p d] = true := by
  simp only [lowss, lows, AV.low, Bool.and_true, lows_tks, Bool.true_and]; rfl
theorem c_RightTyH {t : Ty} (ho : t.Ok) (hc : t.cnt < 1000000) {K : Heap} (hk : lowss K.length K = true) : ∃ e : Int, evp f_tree_RightTy [tyV t] .none K = some ⟨.ret (vI e), .none, K⟩ ∧ (e = 4 ↔ 100 < t.dep) := by
  obtain ⟨e, h, h4⟩ := c_RightTy ho hc
  exact ⟨e, ev_lift0 gx_ren h (map_ren _ _) rfl hk, h4⟩
theorem r4RightTyH {t : Ty} (ho : t.Ok) (hc : t.cnt < SM) {K : Heap} (hk : lowss K.length K = true) : ∃ e : Int, evp f_waferref04_RightTy [tyV t] .none K = some ⟨.ret (vI e), .none, K⟩ ∧ (e = 4 ↔ 100 < t.dep) := by
  obtain ⟨e, h, h4⟩ := r4RightTy ho hc
  exact ⟨e, ev_lift0 gx_ren h (map_ren _ _) rfl hk, h4⟩
theorem tyW_facts {s : ByteArray} {ts : List Tok} (h : lexA s = .ok ts) {t : Ty} {l : List Tok} (hF : pTy s.size (8 * ts.length + 7) ts = .ok t l) : t.Ok ∧ t.cnt < 1000000 := by
  obtain ⟨h1, h2, h3, h4⟩ := lexA_facts h
  obtain ⟨q1, q2, q3⟩ := (wtT s.size (8 * ts.length + 7)).ty h3 t l hF
  exact ⟨q1, by omega⟩
theorem c_Ty (s : ByteArray) : evp f_parsecore_Ty [vS s] .none [] = some ⟨.ret (tyAns (tyW s)), .none, []⟩ := by
  refine ktc7_is (wp_eq2 (X_Ty_eq ..) (wp_Lex (fun ts hts => ?_) (fun p e he => ?_)))
  · obtain ⟨hs, hg, h4, hl⟩ := lexA_facts hts
    refine wp_if2 nf (fun _ => ⟨rfl, wp_if2 nf fun _ => ?_⟩)
    obtain ⟨r, c, hr⟩ := (pt_all s.size (8 * ts.length + 7)).Ty (l := ts) (d := 0) hg (by omega) (by unfold BIG; omega)
    cases hF : pTy s.size (8 * ts.length + 7) ts with
    | ok t l =>
      rw [hF] at hr
      obtain ⟨hgl, rfl⟩ := hr
      obtain ⟨ho, hc⟩ := tyW_facts hts hF
      obtain ⟨e, cR, he4⟩ := c_RightTyH ho hc (K := [hp5 (tks l) s.size 0 0 0]) low_hp
      rw [← tyV_eq] at cR c
      refine .inl ⟨_, _, _, _, _, _, _, _, _, c, wp_if2 nf fun _ => wp_if2 nf fun _ => ?_⟩
      cases l with
      | cons u l =>
        refine wp_if2 (fun _ => ⟨_, _, _, _, ⟨Int.le_refl _, rfl⟩, rfl, wp_if2 (fun _ => ⟨rfl, rfl, rfl, rfl, ?_⟩) (fun h => absurd h (by decide))⟩) (fun h => absurd (of_decide_eq_false h) (by simp))
        simp only [tyW, hts, hF, whole, tyAns]; rfl
      | nil =>
        refine wp_if2 (fun h => absurd (of_decide_eq_true h) (by simp)) (fun _ => ⟨rfl, wp_if2 nf fun _ => ⟨_, cR, wp_if2 (fun h => ⟨rfl, rfl, rfl, rfl, ?_⟩) (fun h => ⟨(low_ty 0 t).1, (low_ty 0 t).2, (low_ty 0 t).1, (low_ty 0 t).2, ?_⟩)⟩⟩)
        · simp only [tyW, hts, hF, whole, if_pos (he4.1 (eq_of_beq h)), tyAns]; rfl
        · rw [beq_eq_false_iff_ne] at h
          simp only [tyW, hts, hF, whole, if_neg (fun hd => h (he4.2 hd)), tyAns, ← tyV_eq]; rfl
    | no e p =>
      rw [hF] at hr
      obtain ⟨he, l, rfl⟩ := hr
      rw [if_pos rfl] at c
      refine .inl ⟨_, _, _, _, _, _, _, _, _, c, wp_if2 nf fun _ => wp_if2 (fun _ => ⟨rfl, wp_if2 (fun _ => ⟨rfl, rfl, rfl, rfl, ?_⟩) (fun h => by rw [ne0 he] at h; cases h)⟩) (fun h => by rw [ne0 he] at h; cases h)⟩
      simp only [tyW, hts, hF, whole, tyAns]; rfl
  · have hne := (lexA_err he).1
    refine wp_if2 (fun _ => ⟨rfl, wp_if2 (fun _ => ⟨rfl, rfl, rfl, rfl, ?_⟩) (fun h => by rw [ne0 hne] at h; cases h)⟩) (fun h => by rw [ne0 hne] at h; cases h)
    simp only [tyW, he, tyAns]; rfl
theorem c_rTyS (s : ByteArray) : evp f_waferref05_Ty [vS s] .none [] = some ⟨.ret (tyAns (tyW s)), .none, []⟩ := by
  refine ktc7_is (wp_eq2 (X_rTyS_eq ..) (wp_rLex (fun ts hts => ?_) (fun p e he => ?_)))
  · obtain ⟨hs, hg, h4, hl⟩ := lexA_facts hts
    refine wp_if2 nf (fun _ => ⟨rfl, wp_if2 nf fun _ => ?_⟩)
    obtain ⟨r, c, hr⟩ := (qt_all s.size hg (by omega) (8 * ts.length + 7)).ty (k := 0) (Nat.zero_le _) (by omega)
    rw [List.drop_zero] at hr
    cases hF : pTy s.size (8 * ts.length + 7) ts with
    | ok t l =>
      rw [hF] at hr
      obtain ⟨k, hd, hkl, rfl⟩ := hr
      obtain ⟨ho, hc⟩ := tyW_facts hts hF
      obtain ⟨e, cR, he4⟩ := r4RightTyH ho (by unfold SM; omega) (K := qH ts s.size k 0 0) low_hp
      rw [← tyV_eq] at cR c
      refine ⟨_, _, _, _, _, _, _, _, _, c, wp_if2 nf fun _ => wp_if2 nf fun _ => ?_⟩
      cases l with
      | cons u l =>
        refine wp_if2 (fun _ => wp_if2 (fun _ => ⟨_, _, _, _, rowk (dropc hd).2.1, rfl, rfl, wp_stage (wp_if2 (fun h => absurd h (by decide)) (fun _ => wp_done (wp_eq2 (X_rTySs4_eq ..) (wp_if2 (fun _ => ⟨rfl, rfl, ?_⟩) (fun h => absurd h (by decide))))))⟩) (not_lt hd)) (not_lt hd)
        simp only [tyW, hts, hF, whole, tyAns]; rfl
      | nil =>
        refine wp_if2 (lt_len hd) (fun _ => ⟨rfl, wp_stage (wp_if2 (fun _ => ⟨_, cR, wp_if2 (fun h => wp_done (wp_eq2 (X_rTySs6_eq ..) (wp_if2 (fun _ => ⟨rfl, rfl, ?_⟩) (fun h => absurd h (by decide))))) (fun h => wp_done (wp_eq2 (X_rTySs6_eq ..) (wp_if2 (fun h => absurd h (by decide)) (fun _ => ⟨(low_ty 0 t).1, (low_ty 0 t).2, ?_⟩))))⟩) (fun h => absurd h (by decide)))⟩)
        · simp only [tyW, hts, hF, whole, if_pos (he4.1 (eq_of_beq h)), tyAns]; rfl
        · rw [beq_eq_false_iff_ne] at h
          simp only [tyW, hts, hF, whole, if_neg (fun hd => h (he4.2 hd)), tyAns, ← tyV_eq]; rfl
    | no e p =>
      rw [hF] at hr
      obtain ⟨he, k, x, ⟨i, n, a, b, rfl⟩, rfl⟩ := hr
      refine ⟨_, _, _, _, _, _, _, _, _, c, wp_if2 nf fun _ => wp_if2 (fun _ => ⟨rfl, wp_stage (wp_if2 (fun h => by rw [eq0i he] at h; cases h) (fun _ => wp_done (wp_eq2 (X_rTySs3_eq ..) (wp_if2 (fun _ => ⟨rfl, rfl, ?_⟩) (fun h => by rw [ne0 he] at h; cases h)))))⟩) (fun h => by rw [ne0 he] at h; cases h)⟩
      simp only [tyW, hts, hF, whole, tyAns]; rfl
  · have hne := (lexA_err he).1
    refine wp_if2 (fun _ => ⟨rfl, wp_if2 (fun _ => ⟨rfl, rfl, ?_⟩) (fun h => by rw [ne0 hne] at h; cases h)⟩) (fun h => by rw [ne0 hne] at h; cases h)
    simp only [tyW, he, tyAns]; rfl
end Go.Proofs
end

section
/- PARSE: the law ParseTys -/
set_option linter.unusedVariables false
set_option linter.unusedSimpArgs false
set_option maxRecDepth 100000
open Go Go.Eng Go.Pa
namespace Go.Proofs
theorem r4Same0 : evp f_waferref04_SameTy [ty0, ty0] .none [] = some ⟨.ret (vB true), .none, []⟩ := ac 60 (by kernel_rfl)
theorem tyW_ok {s : ByteArray} {t : Ty} (h : tyW s = .ok t) : t.Ok := by
  unfold tyW at h
  cases hl : lexA s with
  | error x => rw [hl] at h; cases h
  | ok ts =>
    rw [hl] at h
    simp only at h
    cases hF : pTy s.size (8 * ts.length + 7) ts with
    | no e p => rw [hF] at h; cases h
    | ok u l =>
      rw [hF] at h
      cases l with
      | cons a l => cases h
      | nil =>
        simp only [whole] at h
        split at h
        · cases h
        · injection h with h; subst h
          exact (tyW_facts hl hF).1
theorem law_ParseTys (s : ByteArray) : evp f_waferlaw05_ParseTys [vS s] .none [] = some ⟨.ret (vB true), .none, []⟩ := by
  have h1 := c_Ty s
  have h2 := c_rTyS s
  refine ktc7_is (wp_eq2 (X_ParseTys_eq ..) ?_)
  cases hw : tyW s with
  | error x =>
    obtain ⟨p, e⟩ := x
    rw [hw] at h1 h2
    exact ⟨_, _, _, _, _, _, h1, _, _, _, _, _, _, h2, wp_if2 (fun _ => wp_if2 (fun _ => ⟨_, r4Same0, wp_if2 (fun _ => ⟨_, alive5, rfl⟩) (fun h => by cases h)⟩) (fun h => by simp at h)) (fun h => by simp at h)⟩
  | ok t =>
    rw [hw] at h1 h2
    have h3 := r4SameTy (tyW_ok hw)
    simp only [tyAns, tyV, ty_row] at h1 h2
    rw [← tyV_eq] at h3
    exact ⟨_, _, _, _, _, _, h1, _, _, _, _, _, _, h2, wp_if2 (fun _ => wp_if2 (fun _ => ⟨_, h3, wp_if2 (fun _ => ⟨_, alive5, rfl⟩) (fun h => by cases h)⟩) (fun h => by simp at h)) (fun h => by simp at h)⟩
end Go.Proofs
end
