/- LEX: what the document's functions answer, part 2: next, Lex; the law LexLexes -/
import Derived.Test.YtnohjjhgdkpgcaaDoorL9
import Derived.Test.YtnohjjhgdkpgcaaDoorL5
open Go Go.Eng Go.Lx
namespace Go.Proofs
set_option linter.unusedVariables false
set_option linter.unusedSimpArgs false
set_option maxRecDepth 100000

theorem high_res {c : UInt8} {l : T} (h : high c = true) : resP (c :: l) = false := by
  rw [Bool.eq_false_iff]
  intro hr
  have hw : ∀ w ∈ words, (w.head?.map low).getD false = true := by decide
  unfold resP at hr
  rw [List.any_eq_true] at hr
  obtain ⟨w, hm, he⟩ := hr
  have he := of_decide_eq_true he
  have := hw w hm
  rw [← he] at this
  have hl : low c = true := by simpa using this
  rw [low_high hl] at h; cases h

/-- what ref's next comes to -/
def rV (s : ByteArray) (a : Nat) (x : Except Nat Tk) (r : CRes) : Prop :=
  match x with
  | .ok t => r = ⟨.ret (oneV s a (.ok t)), .none, []⟩
  | .error e => ∃ (k n m : Int) (b : ByteArray), r = ⟨.ret (.tuple [.agg [vI k, vS b, vI n, vI m], vI e]), .none, []⟩
theorem rV_err {s : ByteArray} {a : Nat} {e : Nat} {x : Except Nat Tk} {k n m : Int} {b : ByteArray} (h : x = .error e) : rV s a x ⟨.ret (.tuple [.agg [vI k, vS b, vI n, vI m], vI e]), .none, []⟩ := by
  subst h; exact ⟨_, _, _, _, rfl⟩
theorem rV_ok {s : ByteArray} {a k n v : Nat} {x : Except Nat Tk} (h : x = .ok (k, n, v)) : rV s a x ⟨.ret (.tuple [.agg [vI k, vS (s.extract a (a + n)), vI v, vI a], vI 0]), .none, []⟩ := by
  subst h; rfl
theorem y_rnextK (s : ByteArray) (a : Nat) (q i : Int) : (X_rnext s a).K ⟨tm2 126 [(0, (vS (s))), (1, (vI ((↑a : Int)))), (4, (.lp 4 0 0)), (6, (.lp 6 0 0)), (7, (vI (i)))], lm2 126 [(4, (0, [(vI (0)), (vS ((⟨#[]⟩ : ByteArray))), (vI (0)), (vI (0))])), (6, (0, [(vI (q)), (vS ((⟨#[]⟩ : ByteArray))), (vI (0)), (vI ((↑a : Int)))]))], ⟨[], [], .none, 0⟩⟩ = Y_rnextK s a q i := by delta Y_rnextK X_rnext; rfl
theorem y_rnextD (s : ByteArray) (a : Nat) (y : UInt8) (b : Bool) (y1 : UInt8) (b1 : Bool) (y2 y3 : UInt8) (b2 : Bool) : ((((((((X_rnext s a).T.Y y).T.B b).T.F.Y y1).T.B b1).T.F.Y y2).T.F.Y y3).T.B b2).T.T = Y_rnextD s a y b y1 b1 y2 y3 b2 := by delta Y_rnextD X_rnext; rfl

theorem rnext_fin {s : ByteArray} {a : Nat} {q n : Nat} {x : Except Nat Tk} {QD : List (St → Prop)} (hn : a + n ≤ s.size) (h : x = if n = 0 then .error 10 else if q ≠ 6 ∧ 32 < n then .error 12 else .ok (q, n, 0)) :
    ((X_rnext s a).K ⟨tm2 126 [(0, (vS (s))), (1, (vI ((↑a : Int)))), (4, (.lp 4 0 0)), (6, (.lp 6 0 0)), (7, (vI ((a + n : Nat) : Int)))], lm2 126 [(4, (0, [(vI (0)), (vS ((⟨#[]⟩ : ByteArray))), (vI (0)), (vI (0))])), (6, (0, [(vI (q)), (vS ((⟨#[]⟩ : ByteArray))), (vI (0)), (vI ((↑a : Int)))]))], ⟨[], [], .none, 0⟩⟩).wp Pg cfg0 evp QD (rV s a x) := by
  refine wp_eq2 (y_rnextK s a q _) (wp_eq2 (X_rnextK_eq s a q _) ⟨by apply decide_eq_true; omega, wp_if2 (fun h0 => ?_) (fun h0 => ?_)⟩)
  · have h0 : ((a + n : Nat) : Int) = (a : Int) := by simpa using h0
    rw [if_pos (by omega)] at h
    exact ⟨rfl, rV_err h⟩
  · have h0 : ¬ ((a + n : Nat) : Int) = (a : Int) := by simpa using h0
    rw [if_neg (by omega)] at h
    refine wp_if2 (fun h6 => ?_) (fun h6 => ?_)
    · have h6 : ¬ (q : Int) = 6 := by simpa using h6
      rw [Int.toNat_natCast, Int.toNat_natCast, ext_size hn]
      refine wp_if2 (fun h3 => ?_) (fun h3 => ?_)
      · have h3 := of_decide_eq_true h3
        rw [if_pos ⟨by omega, by omega⟩] at h
        exact ⟨rfl, rV_err h⟩
      · have h3 := of_decide_eq_false h3
        rw [if_neg (by omega)] at h
        exact ⟨rfl, rV_ok h⟩
    · have h6 : (q : Int) = 6 := by simpa using h6
      rw [if_neg (by omega)] at h
      exact ⟨rfl, rV_ok h⟩

def numT (s : ByteArray) (a i : Nat) : KT :=
  .out (.need (decide (0 ≤ (a : Int) ∧ (a : Int) ≤ (i : Int) ∧ (i : Int) ≤ (s.size : Int)))
    (.exI fun i1 => .exB fun b4 => .call f_waferref03_number [vS (s.extract (a : Int).toNat (i : Int).toNat)] .none [] ⟨.ret (.tuple [vI i1, vB b4]), .none, []⟩
      (.branch (!b4) (.out (.need true (.ret ⟨.ret (.tuple [.agg [vI 0, vS ⟨#[]⟩, vI 0, vI a], vI 1]), .none, []⟩)))
        (.need (decide (0 ≤ (a : Int) ∧ (a : Int) ≤ (i : Int) ∧ (i : Int) ≤ (s.size : Int)))
          (.out (.need true (.ret ⟨.ret (.tuple [.agg [vI 4, vS (s.extract (a : Int).toNat (i : Int).toNat), vI i1, vI a], vI 0]), .none, []⟩))))))
)
theorem c_rnext {s : ByteArray} {a : Nat} (hs : s.size ≤ 4096) (ha : a < s.size) : ∃ r, evp f_waferref03_next [vS s, vI a] .none [] = some r ∧ rV s a (one resP ((tx s).drop a)) r := by
  have hB : s.size < BIG := by unfold BIG; omega
  obtain ⟨c, r, hd, hc, hr⟩ := tx_at ha
  have hlen : r.length + 1 = s.size - a := by have e := congrArg List.length hd; rw [List.length_drop, tx_len] at e; simp at e; omega
  refine kt3_ex (wp_eq2 (X_rnext_eq s a) (wp_stage (wp_at hc ⟨_, c_rlow c, ?_⟩)))
  rw [hd]
  -- words
  have hword : low c = true ∨ high c = true → one resP (c :: r) = if span wordB (c :: r) = 0 then .error 10 else if (if high c then 2 else if resP ((c :: r).take (span wordB (c :: r))) then 3 else 1) ≠ 6 ∧ 32 < span wordB (c :: r) then .error 12 else .ok (if high c then 2 else if resP ((c :: r).take (span wordB (c :: r))) then 3 else 1, span wordB (c :: r), 0) := by
    intro hlh
    have hw : wordB c = true := by unfold wordB; rcases hlh with h | h <;> simp [h]
    have h0 : span wordB (c :: r) ≠ 0 := by simp [span, hw]
    have hk : (if high c then 2 else if resP ((c :: r).take (span wordB (c :: r))) then 3 else 1) ≠ 6 := by split <;> (try split) <;> omega
    rw [if_neg h0]
    unfold one
    have : (low c || high c) = true := by rcases hlh with h | h <;> simp [h]
    simp only [this, if_true]
    by_cases h32 : 32 < span wordB (c :: r)
    · rw [if_pos h32]; exact (if_pos ⟨hk, h32⟩).symm
    · rw [if_neg h32]; exact (if_neg fun h => h32 h.2).symm
  have hspan := span_drop wordB s a (Nat.le_of_lt ha)
  have hrun := c_rrun true hB (Nat.le_of_lt ha)
  rw [show runB true = wordB from rfl] at hrun
  rw [hd] at hspan hrun
  have hresA : ∀ n, evp f_waferref02_Reserved [vS (s.extract (a : Int).toNat ((a + n : Nat) : Int).toNat)] .none [] = some ⟨.ret (vB (resP ((c :: r).take n))), .none, []⟩ := fun n => by
    have e : tx (s.extract (a : Int).toNat ((a + n : Nat) : Int).toNat) = (c :: r).take n := by rw [Int.toNat_natCast, Int.toNat_natCast, tx_ext_n, hd]
    rw [c_rReserved, e]
  have hhr : high c = true → 1 ≤ span wordB (c :: r) → resP ((c :: r).take (span wordB (c :: r))) = false := fun h1 h2 => by
    cases hsp : span wordB (c :: r) with
    | zero => omega
    | succ n => rw [List.take_succ_cons]; exact high_res h1
  have hpos : low c = true ∨ high c = true → 1 ≤ span wordB (c :: r) := by
    intro hlh
    have hw : wordB c = true := by unfold wordB; rcases hlh with h | h <;> simp [h]
    simp [span, hw]
  refine wp_if2 (fun hl => ?_) (fun hl => ?_)
  · have hfin := rnext_fin (s := s) (a := a) (QD := []) hspan (hword (.inl hl))
    have hh := low_high hl
    rw [hh] at hfin
    refine ⟨_, hrun, wp_stage (wp_at hc ⟨_, c_rhigh c, wp_if2 (fun h => by rw [hh] at h; cases h) (fun _ => wp_done (wp_eq2 (X_rnexts1_eq s a c _ _ 1) ⟨by apply decide_eq_true; omega, _, hresA _, wp_if2 (fun h3 => wp_done ?_) (fun h3 => wp_done ?_)⟩))⟩)⟩
    · rw [h3] at hfin; exact hfin
    · rw [h3] at hfin; exact hfin
  refine wp_at hc ⟨_, c_rhigh c, wp_if2 (fun hh => ?_) (fun hh => ?_)⟩
  · have hfin := rnext_fin (s := s) (a := a) (QD := []) hspan (hword (.inr hh))
    rw [hh] at hfin
    have hrf := hhr hh (hpos (.inr hh))
    refine ⟨_, hrun, wp_stage (wp_at hc ⟨_, c_rhigh c, wp_if2 (fun _ => wp_done (wp_eq2 (X_rnexts2_eq s a c _ c _ _ 2) ⟨by apply decide_eq_true; omega, _, hresA _, wp_if2 (fun h3 => ?_) (fun h3 => wp_done hfin)⟩)) (fun h => by rw [hh] at h; cases h)⟩)⟩
    rw [hrf] at h3; cases h3
  refine wp_at hc ?_
  rw [c39]
  refine wp_if2 (fun hq => ?_) (fun hq => ?_)
  · have hg : digit c = false := by
      have : c = 39 := by simpa using hq
      subst this; decide
    have hone : one resP (c :: r) = if !(r.head?.map low).getD false then .error 10 else if 32 < span tyvB r + 1 then .error 12 else .ok (5, span tyvB r + 1, 0) := by
      unfold one
      simp only [hl, hh, hg, hq, Bool.or_false, Bool.false_eq_true, if_false, if_true]
    rw [kw_succ' (by omega)]
    refine wp_stage (wp_if2 (fun hz => ?_) (fun hz => ?_))
    · have hz := of_decide_eq_true hz
      have hr0 : r = [] := by rw [hr]; exact List.drop_eq_nil_of_le (by rw [tx_len]; omega)
      refine wp_out (wp_out ⟨rfl, rV_err ?_⟩)
      rw [hone, hr0]; rfl
    · have hz := of_decide_eq_false hz
      cases hrr : r with
      | nil => rw [hrr] at hlen; simp at hlen; omega
      | cons d r' =>
        have hd2 := hr.symm.trans hrr
        obtain ⟨_, hc2, _⟩ := tx_of hd2
        rw [hrr] at hone
        refine wp_at hc2 ⟨_, c_rlow d, wp_if2 (fun hb => ?_) (fun hb => ?_)⟩
        · have hb : low d = false := by simpa using hb
          refine wp_out (wp_out ⟨rfl, rV_err ?_⟩)
          rw [hone]; simp [hb]
        · have hb : low d = true := by simpa using hb
          have hn := span_drop tyvB s (a + 1) (by omega)
          have h3 := c_rrun false hB (a := a + 1) (by omega)
          rw [show runB false = tyvB from rfl] at h3
          rw [← hr, hrr] at hn h3
          refine wp_done (wp_eq2 (X_rnexts3_eq s a c _ c _ c) ?_)
          rw [kw_succ' (by omega)]
          refine ⟨_, h3, wp_done ?_⟩
          have e : a + 1 + span tyvB (d :: r') = a + (span tyvB (d :: r') + 1) := by omega
          rw [e] at hn ⊢
          refine rnext_fin hn ?_
          rw [hone]
          simp only [List.head?_cons, Option.map_some, Option.getD_some, hb, Bool.not_true, Bool.false_eq_true, if_false]
          by_cases h32 : 32 < span tyvB (d :: r') + 1
          · simp [h32]
          · simp [h32]
  refine wp_at hc ⟨_, c_rdigit c, wp_if2 (fun hg => ?_) (fun hg => ?_)⟩
  · have hn := span_drop digit s a (by omega)
    rw [hd] at hn
    have hall : ∀ x ∈ (c :: r).take (span digit (c :: r)), digit x = true := fun x hx => span_all x hx
    have hone : one resP (c :: r) = match numFrom 0 ((c :: r).take (span digit (c :: r))) with
        | none => .error 1
        | some v => .ok (4, span digit (c :: r), v) := by
      unfold one
      simp only [hl, hh, hg, Bool.or_false, Bool.false_eq_true, if_false, if_true]
      cases numFrom 0 ((c :: r).take (span digit (c :: r))) <;> rfl
    rw [hone]
    have hd' := hd
    have hspd : span digit ((tx s).drop a) = span digit (c :: r) := by rw [hd]
    generalize span digit (c :: r) = n at *
    have et : tx (s.extract (a : Int).toNat ((a + n : Nat) : Int).toNat) = (c :: r).take n := by rw [Int.toNat_natCast, Int.toNat_natCast, tx_ext_n, hd]
    have hnum := c_rnumber (s := s.extract (a : Int).toNat ((a + n : Nat) : Int).toNat) (by rw [Int.toNat_natCast, Int.toNat_natCast, ByteArray.size_extract]; unfold BIG; omega) (by rw [et]; exact hall)
    rw [et] at hnum
    refine wp_eq2 (y_rnextD s a c _ c _ c c _) (loop3 (fun i : Nat => ⟨tm2 126 [(0, (vS (s))), (1, (vI ((↑a : Int)))), (4, (.lp 4 0 0)), (6, (.lp 6 0 0)), (7, (vI i))], lm2 126 [(4, (0, [(vI (0)), (vS ((⟨#[]⟩ : ByteArray))), (vI (0)), (vI (0))])), (6, (0, [(vI (0)), (vS ((⟨#[]⟩ : ByteArray))), (vI (0)), (vI ((↑a : Int)))]))], ⟨[], [], .none, 0⟩⟩)
      (fun i => a ≤ i ∧ i ≤ s.size ∧ i + span digit ((tx s).drop i) = a + n) (fun i => s.size - i) a (by kernel_rfl) ⟨Nat.le_refl _, Nat.le_of_lt ha, by rw [hspd]⟩ ?_)
    rintro i ⟨h1, h2, h3⟩
    have fin : i = a + n → ∀ Q1 Q2 : St → Prop, (numT s a i).wp Pg cfg0 evp [Q1, Q2] (rV s a (match numFrom 0 ((c :: r).take n) with | none => .error 1 | some v => .ok (4, n, v))) := by
      intro hi Q1 Q2
      subst hi
      unfold numT
      cases hv : numFrom 0 ((c :: r).take n) with
      | none =>
        rw [hv] at hnum
        exact wp_out ⟨by apply decide_eq_true; omega, _, _, hnum, wp_if2 (fun _ => wp_out ⟨rfl, rV_err rfl⟩) (fun h => absurd h (by decide))⟩
      | some v =>
        rw [hv] at hnum
        exact wp_out ⟨by apply decide_eq_true; omega, _, _, hnum, wp_if2 (fun h => absurd h (by decide)) (fun _ => ⟨by apply decide_eq_true; omega, wp_out ⟨rfl, rV_ok rfl⟩⟩)⟩
    refine wp_eq2 (X_rnextDR_eq s a c _ c _ c c _ i) (wp_if2 (fun h => ?_) (fun h => ?_))
    · have h := of_decide_eq_true h
      obtain ⟨x, rx, hdx, hcx, hrx⟩ := tx_at (s := s) (i := i) (by omega)
      rw [hdx, span] at h3
      refine wp_at hcx ⟨_, c_rdigit x, wp_if2 (fun hb => ?_) (fun hb => ?_)⟩
      · rw [if_pos hb, hrx] at h3
        rw [kw_succ' (by omega)]
        exact wp_done ⟨i + 1, ⟨⟨by omega, by omega, by omega⟩, by omega⟩, rfl⟩
      · rw [if_neg (by rw [hb]; decide)] at h3
        exact fin (by omega) _ _
    · have h := of_decide_eq_false h
      have hi : i = s.size := by omega
      rw [List.drop_eq_nil_of_le (by rw [tx_len]; omega)] at h3
      exact fin (by simpa [span] using h3) _ _
  · have hone : one resP (c :: r) = if two (c :: r) then .ok (6, 2, 0) else if marks.contains c then .ok (6, 1, 0) else .error 10 := by
      unfold one
      simp only [hl, hh, hg, hq, Bool.or_false, Bool.false_eq_true, if_false]
    have hm := c_rmark hB hd
    refine ⟨_, hm, wp_done ?_⟩
    by_cases h2 : two (c :: r) = true
    · rw [if_pos h2]
      have hr1 : 1 ≤ r.length := by
        rw [two_eq] at h2
        cases r with
        | nil => simp at h2
        | cons d r => simp
      have e : IntKind.i64.wrap ((a : Int) + 2) = ((a + 2 : Nat) : Int) := kw_two (by omega)
      rw [e]
      exact rnext_fin (n := 2) (by omega) (by rw [hone, if_pos h2]; rfl)
    · rw [if_neg h2]
      by_cases hmk : marks.contains c = true
      · rw [if_pos hmk]
        have e : IntKind.i64.wrap ((a : Int) + 1) = ((a + 1 : Nat) : Int) := kw_succ' (by omega)
        rw [e]
        exact rnext_fin (n := 1) (by omega) (by rw [hone, if_neg h2, if_pos hmk]; rfl)
      · rw [if_neg hmk]
        have e : IntKind.i64.wrap ((a : Int) + 0) = ((a + 0 : Nat) : Int) := by rw [IntKind.wrap_i64]; omega
        rw [e]
        exact rnext_fin (n := 0) (by omega) (by rw [hone, if_neg h2, if_neg hmk]; rfl)
end Go.Proofs
