/- Texts of this proof folded into one: L1. -/
import Derived.Test.YtmdjdcnabbapgaaGreatDoorJ8
section
/- LEX: what the program's functions answer, part 1: HasPrefix, run, remark, skipped -/
open Go Go.Eng Go.Lx
namespace Go.Proofs
set_option linter.unusedVariables false
set_option linter.unusedSimpArgs false
set_option maxRecDepth 100000
/-! ### HasPrefix -/
def pre (p l : T) : Bool := p.isPrefixOf l
theorem pre_take (p l : T) : pre p l = decide (p.length ≤ l.length ∧ l.take p.length = p) := by
  unfold pre
  rw [Bool.eq_iff_iff, decide_eq_true_iff, List.isPrefixOf_iff_prefix, List.prefix_iff_eq_take]
  constructor
  · intro h
    refine ⟨?_, h.symm⟩
    have := congrArg List.length h
    rw [List.length_take] at this; omega
  · rintro ⟨_, h⟩; exact h.symm
theorem c_HasPrefix (s p : ByteArray) : evp f_strings_HasPrefix [vS s, vS p] .none [] = some ⟨.ret (vB (pre (tx p) (tx s))), .none, []⟩ := by
  refine kt3_ev (wp_eq2 (X_HasPrefix_eq s p) (wp_if2 (fun h => ?_) (fun h => ?_)))
  · have h := of_decide_eq_true h
    refine ⟨by apply decide_eq_true; omega, rfl, rfl, ret_eq ?_⟩
    rw [beq_tx, tx_ext, pre_take]
    congr 2
    simp only [Int.toNat_zero, Int.toNat_natCast, List.drop_zero, Nat.sub_zero, decide_eq_decide, tx_len]
    exact propext ⟨fun e => ⟨by omega, e⟩, fun e => e.2⟩
  · have h := of_decide_eq_false h
    refine ⟨rfl, rfl, ret_eq ?_⟩
    rw [pre_take]
    congr 2
    symm
    rw [decide_eq_false_iff_not]
    rintro ⟨e, _⟩
    rw [tx_len, tx_len] at e; omega
theorem pre_opens (l : T) : pre [40, 42] l = Lx.opens l := by
  cases l with
  | nil => rfl
  | cons c r =>
    rw [opens_eq]
    cases r with
    | nil => simp [pre, List.isPrefixOf]
    | cons d r => simp [pre, List.isPrefixOf, Bool.beq_comm]
theorem closes_eq (c : UInt8) (r : T) : closes (c :: r) = (c == 42 && (r.head? == some 41)) := by
  cases r with
  | nil => unfold closes; simp
  | cons d r =>
    by_cases h1 : c = 42
    · subst h1
      by_cases h2 : d = 41
      · subst h2; simp [closes]
      · unfold closes; simp [h2]
    · unfold closes; simp [h1]
theorem pre_closes (l : T) : pre [42, 41] l = closes l := by
  cases l with
  | nil => rfl
  | cons c r =>
    rw [closes_eq]
    cases r with
    | nil => simp [pre, List.isPrefixOf]
    | cons d r => simp [pre, List.isPrefixOf, Bool.beq_comm]
theorem ext_drop (s : ByteArray) (i : Nat) : tx (s.extract (i : Int).toNat (s.size : Int).toNat) = (tx s).drop i := by
  rw [tx_ext, Int.toNat_natCast, Int.toNat_natCast, List.take_of_length_le]
  rw [List.length_drop, tx_len]; omega
theorem c_opens (s : ByteArray) (i : Nat) : evp f_strings_HasPrefix [vS (s.extract (i : Int).toNat (s.size : Int).toNat), vS ⟨#[40, 42]⟩] .none [] = some ⟨.ret (vB (Lx.opens ((tx s).drop i))), .none, []⟩ := by
  rw [c_HasPrefix, ext_drop, ← pre_opens]
theorem c_closes (s : ByteArray) (i : Nat) : evp f_strings_HasPrefix [vS (s.extract (i : Int).toNat (s.size : Int).toNat), vS ⟨#[42, 41]⟩] .none [] = some ⟨.ret (vB (Lx.closes ((tx s).drop i))), .none, []⟩ := by
  rw [c_HasPrefix, ext_drop, ← pre_closes]
/-! ### run -/
theorem y_run (s : ByteArray) (a : Nat) (g : FuncId) : kt3 f_lex_run [vS s, vI a, .func (.func g) [] []] [] = Y_run s a g := by delta Y_run; rfl
theorem kw_succ' {x : Nat} (h : x < BIG) : IntKind.i64.wrap ((x : Int) + 1) = ((x + 1 : Nat) : Int) := kw_succ (by unfold BIG at h; omega)
theorem c_run1 {s : ByteArray} {a : Nat} (hs : s.size < BIG) (ha : a ≤ s.size) : evp f_lex_run [vS s, vI a, .func (.func f_lex_word_1) [] []] .none [] = some ⟨.ret (vI ((a + span wordB ((tx s).drop a) : Nat) : Int)), .none, []⟩ := by
  refine kt3_ev (wp_eq2 (y_run ..) ?_)
  refine loop3 (fun i : Nat => ⟨tm2 22 [(0, vS s), (1, vI i), (2, .func (.func f_lex_word_1) [] [])], lm2 22 [], ⟨[], [], .none, 0⟩⟩) (fun i => a ≤ i ∧ i ≤ s.size ∧ i + span wordB ((tx s).drop i) = a + span wordB ((tx s).drop a)) (fun i => s.size - i) a (by kernel_rfl) ⟨Nat.le_refl _, ha, rfl⟩ ?_
  rintro i ⟨h1, h2, h3⟩
  refine wp_eq2 (X_runR1_eq s a i) (wp_if2 (fun h => ?_) (fun h => ?_))
  · have h := of_decide_eq_true h
    obtain ⟨c, r, hd, hc, hr⟩ := tx_at (s := s) (i := i) (by omega)
    rw [hd, span] at h3
    refine wp_at hc ⟨_, _, _, _, _, _, c_sorted c, rfl, wp_if2 (fun hb => ?_) (fun hb => ?_)⟩
    · rw [if_pos hb, hr] at h3
      rw [kw_succ' (by omega)]
      exact wp_done ⟨i + 1, ⟨⟨by omega, by omega, by omega⟩, by omega⟩, rfl⟩
    · rw [if_neg (by rw [hb]; decide)] at h3
      refine wp_out ⟨rfl, ret_eq ?_⟩
      rw [← h3]; rfl
  · have h := of_decide_eq_false h
    have : i = s.size := by omega
    subst this
    refine wp_out ⟨rfl, ret_eq ?_⟩
    rw [← h3, List.drop_eq_nil_of_le (by rw [tx_len]; omega)]; rfl
theorem c_run2 {s : ByteArray} {a : Nat} (hs : s.size < BIG) (ha : a ≤ s.size) : evp f_lex_run [vS s, vI a, .func (.func f_lex_one_1) [] []] .none [] = some ⟨.ret (vI ((a + span digit ((tx s).drop a) : Nat) : Int)), .none, []⟩ := by
  refine kt3_ev (wp_eq2 (y_run ..) ?_)
  refine loop3 (fun i : Nat => ⟨tm2 22 [(0, vS s), (1, vI i), (2, .func (.func f_lex_one_1) [] [])], lm2 22 [], ⟨[], [], .none, 0⟩⟩) (fun i => a ≤ i ∧ i ≤ s.size ∧ i + span digit ((tx s).drop i) = a + span digit ((tx s).drop a)) (fun i => s.size - i) a (by kernel_rfl) ⟨Nat.le_refl _, ha, rfl⟩ ?_
  rintro i ⟨h1, h2, h3⟩
  refine wp_eq2 (X_runR2_eq s a i) (wp_if2 (fun h => ?_) (fun h => ?_))
  · have h := of_decide_eq_true h
    obtain ⟨c, r, hd, hc, hr⟩ := tx_at (s := s) (i := i) (by omega)
    rw [hd, span] at h3
    refine wp_at hc ⟨_, _, _, _, _, _, c_sorted c, rfl, wp_if2 (fun hb => ?_) (fun hb => ?_)⟩
    · rw [if_pos hb, hr] at h3
      rw [kw_succ' (by omega)]
      exact wp_done ⟨i + 1, ⟨⟨by omega, by omega, by omega⟩, by omega⟩, rfl⟩
    · rw [if_neg (by rw [hb]; decide)] at h3
      refine wp_out ⟨rfl, ret_eq ?_⟩
      rw [← h3]; rfl
  · have h := of_decide_eq_false h
    have : i = s.size := by omega
    subst this
    refine wp_out ⟨rfl, ret_eq ?_⟩
    rw [← h3, List.drop_eq_nil_of_le (by rw [tx_len]; omega)]; rfl
theorem c_run3 {s : ByteArray} {a : Nat} (hs : s.size < BIG) (ha : a ≤ s.size) : evp f_lex_run [vS s, vI a, .func (.func f_lex_one_2) [] []] .none [] = some ⟨.ret (vI ((a + span tyvB ((tx s).drop a) : Nat) : Int)), .none, []⟩ := by
  refine kt3_ev (wp_eq2 (y_run ..) ?_)
  refine loop3 (fun i : Nat => ⟨tm2 22 [(0, vS s), (1, vI i), (2, .func (.func f_lex_one_2) [] [])], lm2 22 [], ⟨[], [], .none, 0⟩⟩) (fun i => a ≤ i ∧ i ≤ s.size ∧ i + span tyvB ((tx s).drop i) = a + span tyvB ((tx s).drop a)) (fun i => s.size - i) a (by kernel_rfl) ⟨Nat.le_refl _, ha, rfl⟩ ?_
  rintro i ⟨h1, h2, h3⟩
  refine wp_eq2 (X_runR3_eq s a i) (wp_if2 (fun h => ?_) (fun h => ?_))
  · have h := of_decide_eq_true h
    obtain ⟨c, r, hd, hc, hr⟩ := tx_at (s := s) (i := i) (by omega)
    rw [hd, span] at h3
    refine wp_at hc ⟨_, _, _, _, _, _, c_sorted c, rfl, wp_if2 (fun hb => ?_) (fun hb => ?_)⟩
    · rw [if_pos hb, hr] at h3
      rw [kw_succ' (by omega)]
      exact wp_done ⟨i + 1, ⟨⟨by omega, by omega, by omega⟩, by omega⟩, rfl⟩
    · rw [if_neg (by rw [hb]; decide)] at h3
      refine wp_out ⟨rfl, ret_eq ?_⟩
      rw [← h3]; rfl
  · have h := of_decide_eq_false h
    have : i = s.size := by omega
    subst this
    refine wp_out ⟨rfl, ret_eq ?_⟩
    rw [← h3, List.drop_eq_nil_of_le (by rw [tx_len]; omega)]; rfl
/-! ### remark -/
theorem y_remark (s : ByteArray) (a : Nat) : kt3 f_lex_remark [vS s, vI a] [] = Y_remark s a := by delta Y_remark; rfl
/-- where a remark ends -/
def remA (a : Nat) : Option Nat → Int
  | none => -1
  | some n => ((a + n : Nat) : Int)
theorem kw_two {x : Nat} (h : x < BIG) : IntKind.i64.wrap ((x : Int) + 2) = ((x + 2 : Nat) : Int) := by
  rw [IntKind.wrap_i64]; unfold BIG at h; omega
theorem c_remark {s : ByteArray} {a : Nat} (hs : s.size < BIG) (ha : a ≤ s.size) (ho : Lx.opens ((tx s).drop a) = true) : evp f_lex_remark [vS s, vI a] .none [] = some ⟨.ret (vI (remA a (rem ((tx s).drop a) 0))), .none, []⟩ := by
  refine kt3_ev (wp_eq2 (y_remark ..) ?_)
  refine loop3 (fun x : Nat × Nat => ⟨tm2 33 [(0, vS s), (1, vI x.1), (5, vI x.2)], lm2 33 [], ⟨[], [], .none, 0⟩⟩)
    (fun x => a ≤ x.1 ∧ x.1 ≤ s.size ∧ remA x.1 (rem ((tx s).drop x.1) x.2) = remA a (rem ((tx s).drop a) 0) ∧ x.2 ≤ x.1 ∧ (x.2 = 0 → Lx.opens ((tx s).drop x.1) = true)) (fun x => s.size - x.1) (a, 0) (by kernel_rfl) ⟨Nat.le_refl _, ha, rfl, Nat.zero_le _, fun _ => ho⟩ ?_
  rintro ⟨i, d⟩ ⟨h1, h2, h3, h4, h5⟩
  simp only at h1 h2 h3 h4 h5
  refine wp_eq2 (X_remarkR_eq s a i d) (wp_if2 (fun h => ?_) (fun h => ?_))
  · have h := of_decide_eq_true h
    obtain ⟨c, r, hd, hc, hr⟩ := tx_at (s := s) (i := i) (by omega)
    have hr2 : r.drop 1 = (tx s).drop (i + 2) := by rw [hr, List.drop_drop]
    have hl2 : ∀ {q : Nat → Nat} {x : Option Nat} {n : Nat}, remA i (x.map (· + n)) = remA (i + n) x := by
      intro q x n
      cases x with
      | none => rfl
      | some y => simp only [Option.map_some, remA]; congr 1; omega
    have hlen : (tx s).drop i = c :: r → r ≠ [] → i + 2 ≤ s.size := by
      intro e hne
      have := congrArg List.length e
      cases r with
      | nil => exact absurd rfl hne
      | cons x r => simp only [List.length_drop, tx_len, List.length_cons] at this; omega
    rw [hd, rem_cons] at h3
    refine ⟨by apply decide_eq_true; omega, _, c_opens s i, wp_if2 (fun hb => ?_) (fun hb => ?_)⟩
    · rw [hd] at hb
      have hne : r ≠ [] := by rintro rfl; rw [opens_eq] at hb; simp at hb
      rw [if_pos hb, hr2, hl2 (q := id)] at h3
      rw [kw_two (by omega), kw_succ' (by omega)]
      exact wp_done ⟨(i + 2, d + 1), ⟨⟨by simp only; omega, hlen hd hne, h3, by simp only; omega, fun h => by simp at h⟩, by simp only; omega⟩, rfl⟩
    · rw [hd] at hb
      have hd0 : 1 ≤ d := by
        rcases Nat.eq_zero_or_pos d with e | e
        · rw [hd, hb] at h5; exact absurd (h5 e) (by decide)
        · exact e
      rw [if_neg (by rw [hb]; decide)] at h3
      have hw : IntKind.i64.wrap ((d : Int) - 1) = ((d - 1 : Nat) : Int) := by rw [IntKind.wrap_i64]; unfold BIG at hs; omega
      refine ⟨by apply decide_eq_true; omega, _, c_closes s i, wp_if2 (fun hb2 => ?_) (fun hb2 => ?_)⟩
      · rw [hd] at hb2
        have hne : r ≠ [] := by rintro rfl; rw [closes_eq] at hb2; simp at hb2
        rw [if_pos hb2] at h3
        rw [hw, kw_two (by omega)]
        refine wp_if2 (fun hz => ?_) (fun hz => ?_)
        · have hz : ((d - 1 : Nat) : Int) = 0 := by simpa using hz
          rw [if_pos (by omega)] at h3
          exact wp_out ⟨rfl, ret_eq (by rw [← h3]; rfl)⟩
        · have hz : ¬ ((d - 1 : Nat) : Int) = 0 := by simpa using hz
          rw [if_neg (by omega), hr2, hl2 (q := id)] at h3
          exact wp_done ⟨(i + 2, d - 1), ⟨⟨by simp only; omega, hlen hd hne, h3, by simp only; omega, fun h => by simp only at h; omega⟩, by simp only; omega⟩, rfl⟩
      · rw [hd] at hb2
        rw [if_neg (by rw [hb2]; decide), hr, hl2 (q := id)] at h3
        rw [kw_succ' (by omega)]
        exact wp_done ⟨(i + 1, d), ⟨⟨by simp only; omega, by simp only; omega, h3, by simp only; omega, fun h => by simp only at h; omega⟩, by simp only; omega⟩, rfl⟩
  · have h := of_decide_eq_false h
    have : i = s.size := by omega
    subst this
    refine wp_out ⟨rfl, ret_eq ?_⟩
    rw [← h3, List.drop_eq_nil_of_le (by rw [tx_len]; omega), rem_nil]; rfl
/-! ### skipped -/
theorem y_skipped (s : ByteArray) (a : Nat) : kt3 f_lex_skipped [vS s, vI a] [] = Y_skipped s a := by delta Y_skipped; rfl
theorem c_skipped {s : ByteArray} {a : Nat} (hs : s.size < BIG) (ha : a ≤ s.size) : evp f_lex_skipped [vS s, vI a] .none [] = some ⟨.ret (.tuple [vI ((a + (skp ((tx s).drop a)).1 : Nat) : Int), vB (skp ((tx s).drop a)).2]), .none, []⟩ := by
  refine kt3_ev (wp_eq2 (y_skipped ..) ?_)
  refine loop3 (fun i : Nat => ⟨tm2 33 [(0, vS s), (1, vI i)], lm2 33 [], ⟨[], [], .none, 0⟩⟩)
    (fun i => a ≤ i ∧ i ≤ s.size ∧ i + (skp ((tx s).drop i)).1 = a + (skp ((tx s).drop a)).1 ∧ (skp ((tx s).drop i)).2 = (skp ((tx s).drop a)).2) (fun i => s.size - i) a (by kernel_rfl) ⟨Nat.le_refl _, ha, rfl, rfl⟩ ?_
  rintro i ⟨h1, h2, h3, h4⟩
  rw [← h3, ← h4]
  refine wp_eq2 (X_skippedR_eq s a i) (wp_if2 (fun h => ?_) (fun h => ?_))
  · have h := of_decide_eq_true h
    obtain ⟨c, r, hd, hc, hr⟩ := tx_at (s := s) (i := i) (by omega)
    refine wp_at hc ⟨_, _, _, _, _, _, c_sorted c, wp_if2 (fun hb => ?_) (fun hb => ?_)⟩
    · rw [hd, skp_cons, if_pos hb] at h3 h4 ⊢
      rw [hr] at h3 h4 ⊢
      rw [kw_succ' (by omega)]
      exact wp_done ⟨i + 1, ⟨⟨by omega, by omega, by simp only at h3 ⊢; omega, rfl⟩, by omega⟩, rfl⟩
    · refine ⟨by apply decide_eq_true; omega, _, c_opens s i, wp_if2 (fun ho => ?_) (fun ho => ?_)⟩
      · refine ⟨_, c_remark hs h2 ho, ?_⟩
        rw [hd] at ho ⊢
        rw [hd, skp_cons, if_neg (by rw [hb]; decide), if_pos ho] at h3 h4
        rw [skp_cons, if_neg (by rw [hb]; decide), if_pos ho]
        cases hrm : rem (c :: r) 0 with
        | none =>
          simp only
          refine wp_if2 (fun hz => ?_) (fun hz => ?_)
          · exact wp_out ⟨rfl, rfl⟩
          · simp [remA] at hz
        | some n =>
          simp only [hrm] at h3 h4 ⊢
          have hn := rem_bound hrm
          have hl := congrArg List.length hd
          simp only [List.length_drop, tx_len, List.length_cons] at hl hn
          refine wp_if2 (fun hz => ?_) (fun hz => ?_)
          · have := of_decide_eq_true hz; simp only [remA] at this; omega
          · have he : r.drop (n - 1) = (tx s).drop (i + n) := by rw [drop_pred c r (by omega), ← hd, List.drop_drop]
            rw [he] at h3 h4 ⊢
            exact wp_done ⟨i + n, ⟨⟨by omega, by omega, by omega, rfl⟩, by omega⟩, rfl⟩
      · rw [hd] at ho
        rw [hd, skp_cons, if_neg (by rw [hb]; decide), if_neg (by rw [ho]; decide)]
        exact wp_out ⟨rfl, rfl⟩
  · have h := of_decide_eq_false h
    have : i = s.size := by omega
    subst this
    rw [List.drop_eq_nil_of_le (by rw [tx_len]; omega), skp_nil]
    exact wp_out ⟨rfl, rfl⟩
end Go.Proofs
end
