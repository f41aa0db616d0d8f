/- Texts of this proof folded into one: Z7 RX1 RX2 R2. -/
import Derived.Test.YtmdjdcnabbapgaaGreatDoorH14
import Derived.Test.YtmdjdcnabbapgaaGreatDoorH15
section
/- LEX: what the document's functions answer, part 1 -/
open Go Go.Eng Go.Lx
namespace Go.Proofs
set_option linter.unusedVariables false
set_option linter.unusedSimpArgs false
set_option maxRecDepth 100000
theorem wrapU64 (n : Int) : IntKind.u64.wrap n = n % 18446744073709551616 := by simp [IntKind.wrap, IntKind.bits, IntKind.signed]
theorem contains_snoc {c : UInt8} {l : T} {m : UInt8} (h1 : l.contains c = false) (h2 : ¬ m = c) : (l ++ [m]).contains c = false := by
  have h3 : ¬ c ∈ l := by simpa using h1
  simp [h3]
  exact fun e => h2 e.symm
theorem t97 : (97 : UInt8).toNat = 97 := rfl
theorem t122 : (122 : UInt8).toNat = 122 := rfl
theorem t65 : (65 : UInt8).toNat = 65 := rfl
theorem t90 : (90 : UInt8).toNat = 90 := rfl
theorem t48 : (48 : UInt8).toNat = 48 := rfl
theorem t57 : (57 : UInt8).toNat = 57 := rfl
theorem c_rlow (c : UInt8) : evp f_waferref03_low [vY c] .none [] = some ⟨.ret (vB (low c)), .none, []⟩ := by
  refine kt3_ev (wp_eq2 (X_rlow_eq c) (wp_if2 (fun h => ⟨rfl, ret_eq (congrArg vB ?_)⟩) (fun h => ⟨rfl, ret_eq (congrArg vB ?_)⟩)))
  · have h := of_decide_eq_true h
    rw [Bool.eq_iff_iff]
    simp only [low, decide_eq_true_iff, Bool.and_eq_true, UInt8.le_iff_toNat_le, t97, t122]; omega
  · have h := of_decide_eq_false h
    rw [Bool.eq_iff_iff]
    simp only [low, decide_eq_true_iff, Bool.and_eq_true, UInt8.le_iff_toNat_le, t97, t122, Bool.false_eq_true, false_iff]; omega
theorem c_rhigh (c : UInt8) : evp f_waferref03_high [vY c] .none [] = some ⟨.ret (vB (high c)), .none, []⟩ := by
  refine kt3_ev (wp_eq2 (X_rhigh_eq c) (wp_if2 (fun h => ⟨rfl, ret_eq (congrArg vB ?_)⟩) (fun h => ⟨rfl, ret_eq (congrArg vB ?_)⟩)))
  · have h := of_decide_eq_true h
    rw [Bool.eq_iff_iff]
    simp only [high, decide_eq_true_iff, Bool.and_eq_true, UInt8.le_iff_toNat_le, t65, t90]; omega
  · have h := of_decide_eq_false h
    rw [Bool.eq_iff_iff]
    simp only [high, decide_eq_true_iff, Bool.and_eq_true, UInt8.le_iff_toNat_le, t65, t90, Bool.false_eq_true, false_iff]; omega
theorem c_rdigit (c : UInt8) : evp f_waferref03_digit [vY c] .none [] = some ⟨.ret (vB (digit c)), .none, []⟩ := by
  refine kt3_ev (wp_eq2 (X_rdigit_eq c) (wp_if2 (fun h => ⟨rfl, ret_eq (congrArg vB ?_)⟩) (fun h => ⟨rfl, ret_eq (congrArg vB ?_)⟩)))
  · have h := of_decide_eq_true h
    rw [Bool.eq_iff_iff]
    simp only [digit, decide_eq_true_iff, Bool.and_eq_true, UInt8.le_iff_toNat_le, t48, t57]; omega
  · have h := of_decide_eq_false h
    rw [Bool.eq_iff_iff]
    simp only [digit, decide_eq_true_iff, Bool.and_eq_true, UInt8.le_iff_toNat_le, t48, t57, Bool.false_eq_true, false_iff]; omega
theorem ceq (c k : UInt8) : ((c.toNat : Int) == (k.toNat : Int)) = (c == k) := by
  rw [Bool.eq_iff_iff]
  simp only [beq_iff_eq]
  constructor
  · intro h; exact UInt8.toNat_inj.1 (by omega)
  · rintro rfl; rfl
theorem c_rblank (c : UInt8) : evp f_waferref03_blank [vY c] .none [] = some ⟨.ret (vB (Lx.blank c)), .none, []⟩ := by
  have e1 : ((c.toNat : Int) == 32) = (c == 32) := ceq c 32
  have e2 : ((c.toNat : Int) == 9) = (c == 9) := ceq c 9
  have e3 : ((c.toNat : Int) == 10) = (c == 10) := ceq c 10
  have e4 : ((c.toNat : Int) == 13) = (c == 13) := ceq c 13
  refine kt3_ev (wp_eq2 (X_rblank_eq c) ?_)
  rw [e1, e2, e3, e4]
  refine wp_if2 (fun h => ⟨rfl, ret_eq (congrArg vB ?_)⟩) (fun h1 => wp_if2 (fun h => ⟨rfl, ret_eq (congrArg vB ?_)⟩) (fun h2 => wp_if2 (fun h => ⟨rfl, ret_eq (congrArg vB ?_)⟩) (fun h3 => ⟨rfl, ret_eq (congrArg vB ?_)⟩)))
  · simp [Lx.blank, h]
  · simp [Lx.blank, h]
  · simp [Lx.blank, h]
  · simp [Lx.blank, h1, h2, h3]
theorem c_rtwo {s p : ByteArray} {a : Nat} (hs : s.size < BIG) (ha : a ≤ s.size) (hp : (tx p).length = 2) : evp f_waferref03_two [vS s, vI a, vS p] .none [] = some ⟨.ret (vB (pre (tx p) ((tx s).drop a))), .none, []⟩ := by
  refine kt3_ev (wp_eq2 (X_rtwo_eq s a p) ?_)
  rw [kw_two (by omega)]
  refine wp_if2 (fun h => ?_) (fun h => ?_)
  · have h := of_decide_eq_true h
    refine ⟨by apply decide_eq_true; omega, rfl, ret_eq (congrArg vB ?_)⟩
    rw [Int.toNat_natCast, Int.toNat_natCast, beq_tx, tx_ext_n, pre_take, hp, List.length_drop, tx_len]
    simp only [decide_eq_decide]
    exact ⟨fun e => ⟨by omega, e⟩, fun e => e.2⟩
  · have h := of_decide_eq_false h
    refine ⟨rfl, ret_eq (congrArg vB ?_)⟩
    rw [pre_take, hp, List.length_drop, tx_len]
    symm
    rw [decide_eq_false_iff_not]
    rintro ⟨e, _⟩; omega
theorem c_ropens {s : ByteArray} {i : Nat} (hs : s.size < BIG) (ha : i ≤ s.size) : evp f_waferref03_two [vS s, vI i, vS ⟨#[40, 42]⟩] .none [] = some ⟨.ret (vB (Lx.opens ((tx s).drop i))), .none, []⟩ := by
  rw [c_rtwo hs ha rfl, ← pre_opens]
theorem c_rcloses {s : ByteArray} {i : Nat} (hs : s.size < BIG) (ha : i ≤ s.size) : evp f_waferref03_two [vS s, vI i, vS ⟨#[42, 41]⟩] .none [] = some ⟨.ret (vB (Lx.closes ((tx s).drop i))), .none, []⟩ := by
  rw [c_rtwo hs ha rfl, ← pre_closes]
theorem y_rremark (s : ByteArray) (a : Nat) : kt3 f_waferref03_remark [vS s, vI a] [] = Y_rremark s a := by delta Y_rremark; rfl
theorem c_rremark {s : ByteArray} {a : Nat} (hs : s.size < BIG) (ha : a ≤ s.size) (ho : Lx.opens ((tx s).drop a) = true) : evp f_waferref03_remark [vS s, vI a] .none [] = some ⟨.ret (vI (remA a (rem ((tx s).drop a) 0))), .none, []⟩ := by
  refine kt3_ev (wp_eq2 (y_rremark ..) ?_)
  refine loop3 (fun x : Nat × Nat => ⟨tm2 31 [(0, vS s), (1, vI x.1), (5, vI x.2)], lm2 31 [], ⟨[], [], .none, 0⟩⟩)
    (fun x => a ≤ x.1 ∧ x.1 ≤ s.size ∧ remA x.1 (rem ((tx s).drop x.1) x.2) = remA a (rem ((tx s).drop a) 0) ∧ x.2 ≤ x.1 ∧ (x.2 = 0 → Lx.opens ((tx s).drop x.1) = true)) (fun x => s.size - x.1) (a, 0) (by kernel_rfl) ⟨Nat.le_refl _, ha, rfl, Nat.zero_le _, fun _ => ho⟩ ?_
  rintro ⟨i, d⟩ ⟨h1, h2, h3, h4, h5⟩
  simp only at h1 h2 h3 h4 h5
  refine wp_eq2 (X_rremarkR_eq s a i d) (wp_if2 (fun h => ?_) (fun h => ?_))
  · have h := of_decide_eq_true h
    obtain ⟨c, r, hd, hc, hr⟩ := tx_at (s := s) (i := i) (by omega)
    have hr2 : r.drop 1 = (tx s).drop (i + 2) := by rw [hr, List.drop_drop]
    have hl2 : ∀ {q : Nat → Nat} {x : Option Nat} {n : Nat}, remA i (x.map (· + n)) = remA (i + n) x := by
      intro q x n
      cases x with
      | none => rfl
      | some y => simp only [Option.map_some, remA]; congr 1; omega
    have hlen : (tx s).drop i = c :: r → r ≠ [] → i + 2 ≤ s.size := by
      intro e hne
      have := congrArg List.length e
      cases r with
      | nil => exact absurd rfl hne
      | cons x r => simp only [List.length_drop, tx_len, List.length_cons] at this; omega
    rw [hd, rem_cons] at h3
    refine ⟨_, c_ropens hs h2, wp_if2 (fun hb => ?_) (fun hb => ?_)⟩
    · rw [hd] at hb
      have hne : r ≠ [] := by rintro rfl; rw [opens_eq] at hb; simp at hb
      rw [if_pos hb, hr2, hl2 (q := id)] at h3
      rw [kw_two (by omega), kw_succ' (by omega)]
      exact wp_done ⟨(i + 2, d + 1), ⟨⟨by simp only; omega, hlen hd hne, h3, by simp only; omega, fun h => by simp at h⟩, by simp only; omega⟩, rfl⟩
    · rw [hd] at hb
      have hd0 : 1 ≤ d := by
        rcases Nat.eq_zero_or_pos d with e | e
        · rw [hd, hb] at h5; exact absurd (h5 e) (by decide)
        · exact e
      rw [if_neg (by rw [hb]; decide)] at h3
      have hw : IntKind.i64.wrap ((d : Int) - 1) = ((d - 1 : Nat) : Int) := by rw [IntKind.wrap_i64]; unfold BIG at hs; omega
      refine ⟨_, c_rcloses hs h2, wp_if2 (fun hb2 => ?_) (fun hb2 => ?_)⟩
      · rw [hd] at hb2
        have hne : r ≠ [] := by rintro rfl; rw [closes_eq] at hb2; simp at hb2
        rw [if_pos hb2] at h3
        rw [hw, kw_two (by omega)]
        refine wp_if2 (fun hz => ?_) (fun hz => ?_)
        · have hz : ((d - 1 : Nat) : Int) = 0 := by simpa using hz
          rw [if_pos (by omega)] at h3
          exact wp_out ⟨rfl, ret_eq (by rw [← h3]; rfl)⟩
        · have hz : ¬ ((d - 1 : Nat) : Int) = 0 := by simpa using hz
          rw [if_neg (by omega), hr2, hl2 (q := id)] at h3
          exact wp_done ⟨(i + 2, d - 1), ⟨⟨by simp only; omega, hlen hd hne, h3, by simp only; omega, fun h => by simp only at h; omega⟩, by simp only; omega⟩, rfl⟩
      · rw [hd] at hb2
        rw [if_neg (by rw [hb2]; decide), hr, hl2 (q := id)] at h3
        rw [kw_succ' (by omega)]
        exact wp_done ⟨(i + 1, d), ⟨⟨by simp only; omega, by simp only; omega, h3, by simp only; omega, fun h => by simp only at h; omega⟩, by simp only; omega⟩, rfl⟩
  · have h := of_decide_eq_false h
    have : i = s.size := by omega
    subst this
    refine wp_out ⟨rfl, ret_eq ?_⟩
    rw [← h3, List.drop_eq_nil_of_le (by rw [tx_len]; omega), rem_nil]; rfl
theorem y_rskip (s : ByteArray) (a : Nat) : kt3 f_waferref03_skip [vS s, vI a] [] = Y_rskip s a := by delta Y_rskip; rfl
theorem c_rskip {s : ByteArray} {a : Nat} (hs : s.size < BIG) (ha : a ≤ s.size) : evp f_waferref03_skip [vS s, vI a] .none [] = some ⟨.ret (.tuple [vI ((a + (skp ((tx s).drop a)).1 : Nat) : Int), vB (skp ((tx s).drop a)).2]), .none, []⟩ := by
  refine kt3_ev (wp_eq2 (y_rskip ..) ?_)
  refine loop3 (fun i : Nat => ⟨tm2 30 [(0, vS s), (1, vI i)], lm2 30 [], ⟨[], [], .none, 0⟩⟩)
    (fun i => a ≤ i ∧ i ≤ s.size ∧ i + (skp ((tx s).drop i)).1 = a + (skp ((tx s).drop a)).1 ∧ (skp ((tx s).drop i)).2 = (skp ((tx s).drop a)).2) (fun i => s.size - i) a (by kernel_rfl) ⟨Nat.le_refl _, ha, rfl, rfl⟩ ?_
  rintro i ⟨h1, h2, h3, h4⟩
  rw [← h3, ← h4]
  refine wp_eq2 (X_rskipR_eq s a i) (wp_if2 (fun h => ?_) (fun h => ?_))
  · have h := of_decide_eq_true h
    obtain ⟨c, r, hd, hc, hr⟩ := tx_at (s := s) (i := i) (by omega)
    refine wp_at hc ⟨_, c_rblank c, wp_if2 (fun hb => ?_) (fun hb => ?_)⟩
    · rw [hd, skp_cons, if_pos hb] at h3 h4 ⊢
      rw [hr] at h3 h4 ⊢
      rw [kw_succ' (by omega)]
      exact wp_done ⟨i + 1, ⟨⟨by omega, by omega, by simp only at h3 ⊢; omega, rfl⟩, by omega⟩, rfl⟩
    · refine ⟨_, c_ropens hs h2, wp_if2 (fun ho => ?_) (fun ho => ?_)⟩
      · have ho : Lx.opens ((tx s).drop i) = false := by simpa using ho
        rw [hd] at ho
        rw [hd, skp_cons, if_neg (by rw [hb]; decide), if_neg (by rw [ho]; decide)]
        exact wp_out ⟨rfl, rfl⟩
      · have ho : Lx.opens ((tx s).drop i) = true := by simpa using ho
        refine ⟨_, c_rremark hs h2 ho, ?_⟩
        rw [hd] at ho ⊢
        rw [hd, skp_cons, if_neg (by rw [hb]; decide), if_pos ho] at h3 h4
        rw [skp_cons, if_neg (by rw [hb]; decide), if_pos ho]
        cases hrm : rem (c :: r) 0 with
        | none =>
          simp only
          refine wp_if2 (fun hz => ?_) (fun hz => ?_)
          · exact wp_out ⟨rfl, rfl⟩
          · simp [remA] at hz
        | some n =>
          simp only [hrm] at h3 h4 ⊢
          have hn := rem_bound hrm
          have hl := congrArg List.length hd
          simp only [List.length_drop, tx_len, List.length_cons] at hl hn
          refine wp_if2 (fun hz => ?_) (fun hz => ?_)
          · have := of_decide_eq_true hz; simp only [remA] at this; omega
          · have he : r.drop (n - 1) = (tx s).drop (i + n) := by rw [drop_pred c r (by omega), ← hd, List.drop_drop]
            rw [he] at h3 h4 ⊢
            exact wp_done ⟨i + n, ⟨⟨by omega, by omega, by omega, rfl⟩, by omega⟩, rfl⟩
  · have h := of_decide_eq_false h
    have : i = s.size := by omega
    subst this
    rw [List.drop_eq_nil_of_le (by rw [tx_len]; omega), skp_nil]
    exact wp_out ⟨rfl, rfl⟩
def runB (w : Bool) : UInt8 → Bool := if w then wordB else tyvB
theorem y_rrun (s : ByteArray) (a : Nat) (w : Bool) : kt3 f_waferref03_run [vS s, vI a, vB w] [] = Y_rrun s a w := by delta Y_rrun; rfl
theorem c_rrun {s : ByteArray} {a : Nat} (w : Bool) (hs : s.size < BIG) (ha : a ≤ s.size) : evp f_waferref03_run [vS s, vI a, vB w] .none [] = some ⟨.ret (vI ((a + span (runB w) ((tx s).drop a) : Nat) : Int)), .none, []⟩ := by
  refine kt3_ev (wp_eq2 (y_rrun ..) ?_)
  refine loop3 (fun i : Nat => ⟨tm2 41 [(0, vS s), (1, vI i), (2, vB w)], lm2 41 [], ⟨[], [], .none, 0⟩⟩) (fun i => a ≤ i ∧ i ≤ s.size ∧ i + span (runB w) ((tx s).drop i) = a + span (runB w) ((tx s).drop a)) (fun i => s.size - i) a (by kernel_rfl) ⟨Nat.le_refl _, ha, rfl⟩ ?_
  rintro i ⟨h1, h2, h3⟩
  refine wp_eq2 (X_rrunR_eq s a i w) (wp_if2 (fun h => ?_) (fun h => ?_))
  · have h := of_decide_eq_true h
    obtain ⟨c, r, hd, hc, hr⟩ := tx_at (s := s) (i := i) (by omega)
    rw [hd, span] at h3
    have e95 : ((c.toNat : Int) == 95) = (c == 95) := ceq c 95
    have yes : runB w c = true → i + 1 + span (runB w) ((tx s).drop (i + 1)) = a + span (runB w) ((tx s).drop a) := fun hb => by
      rw [if_pos hb, hr] at h3; omega
    have no : runB w c = false → i = a + span (runB w) ((tx s).drop a) := fun hb => by
      rw [if_neg (by rw [hb]; decide)] at h3; omega
    have go : ∀ {QD : List (St → Prop)} {QR : CRes → Prop}, runB w c = true → (KT.done ⟨tm2 41 [(0, (vS (s))), (1, (vI (IntKind.i64.wrap ((↑i : Int) + 1)))), (2, (vB (w)))], lm2 41 [], ⟨[], [], .none, 0⟩⟩).wp Pg cfg0 evp ((fun s_1 => ∃ a', ((a ≤ a' ∧ a' ≤ s.size ∧ a' + span (runB w) ((tx s).drop a') = a + span (runB w) ((tx s).drop a)) ∧ s.size - a' < s.size - i) ∧ s_1 = ⟨tm2 41 [(0, vS s), (1, vI (a' : Nat)), (2, vB w)], lm2 41 [], ⟨[], [], .none, 0⟩⟩) :: QD) QR := fun {QD QR} hb => by
      rw [kw_succ' (by omega)]
      exact wp_done ⟨i + 1, ⟨⟨by omega, by omega, yes hb⟩, by omega⟩, rfl⟩
    have stop : runB w c = false → (⟨.ret (vI (i : Int)), .none, []⟩ : CRes) = ⟨.ret (vI ((a + span (runB w) ((tx s).drop a) : Nat) : Int)), .none, []⟩ := fun hb => ret_eq (by rw [← no hb])
    refine wp_at hc ⟨_, c_rlow c, wp_if2 (fun hl => go ?_) (fun hl => wp_at hc ⟨_, c_rdigit c, wp_if2 (fun hg => go ?_) (fun hg => wp_if2 (fun hw => wp_at hc ⟨_, c_rhigh c, wp_if2 (fun hh => go ?_) (fun hh => wp_at hc ?_)⟩) (fun hw => wp_out ⟨rfl, stop ?_⟩))⟩)⟩
    · cases w <;> simp [runB, wordB, tyvB, hl]
    · cases w <;> simp [runB, wordB, tyvB, hg]
    · rw [hw]; simp [runB, wordB, hh]
    · rw [e95]
      refine wp_if2 (fun h9 => go ?_) (fun h9 => wp_out ⟨rfl, stop ?_⟩)
      · rw [hw]; simp [runB, wordB, h9]
      · rw [hw]; simp [runB, wordB, hl, hg, hh, h9]
    · rw [hw]; simp [runB, tyvB, hl, hg]
  · have h := of_decide_eq_false h
    have : i = s.size := by omega
    subst this
    refine wp_out ⟨rfl, ret_eq ?_⟩
    rw [← h3, List.drop_eq_nil_of_le (by rw [tx_len]; omega)]; rfl
/-! ### the words -/
def wrow (w : T) : List AV := [vS ⟨w.toArray⟩]
theorem y_Has (l : List (List AV)) (s : ByteArray) : kt3 f_waferref02_Has [.slice 1 l .full, vS s] [] = Y_Has l s := by delta Y_Has; rfl
theorem c_Has {ws : List T} {s : ByteArray} (hw : ws.length < BIG) : evp f_waferref02_Has [.slice 1 (ws.map wrow) .full, vS s] .none [] = some ⟨.ret (vB (ws.any fun w => decide (tx s = w))), .none, []⟩ := by
  refine kt3_ev (wp_eq2 (y_Has ..) ?_)
  refine loop3 (fun i : Nat => ⟨tm2 18 [(0, (.slice 1 (ws.map wrow) .full)), (1, vS s), (5, vI i)], lm2 18 [], ⟨[], [], .none, 0⟩⟩) (fun i => i ≤ ws.length ∧ (ws.take i).any (fun w => decide (tx s = w)) = false) (fun i => ws.length - i) 0 (by kernel_rfl) ⟨Nat.zero_le _, rfl⟩ ?_
  rintro i ⟨h1, h2⟩
  refine wp_eq2 (X_HasR_eq _ s i) (wp_if2 (fun h => ?_) (fun h => ?_))
  · have h := of_decide_eq_true h
    rw [List.length_map] at h
    have hi : i < ws.length := by omega
    have hrow : (ws.map wrow)[(i : Int).toNat]? = some [vS ⟨(ws[i]).toArray⟩] := by rw [Int.toNat_natCast]; simp [hi, wrow]
    refine ⟨_, ⟨Int.natCast_nonneg i, hrow⟩, ?_⟩
    have ht : tx ⟨(ws[i]).toArray⟩ = ws[i] := by simp [tx]
    rw [beq_tx, ht]
    refine wp_if2 (fun he => ?_) (fun he => ?_)
    · have he := of_decide_eq_true he
      refine wp_out ⟨rfl, ret_eq (congrArg vB ?_)⟩
      symm
      rw [List.any_eq_true]
      exact ⟨ws[i], List.getElem_mem hi, decide_eq_true he.symm⟩
    · have he := of_decide_eq_false he
      rw [kw_succ' (by omega)]
      refine wp_done ⟨i + 1, ⟨⟨by omega, ?_⟩, by omega⟩, rfl⟩
      rw [List.take_succ_eq_append_getElem hi, List.any_append, h2]
      simp
      exact fun e => he e.symm
  · have h := of_decide_eq_false h
    rw [List.length_map] at h
    rw [List.take_of_length_le (by omega)] at h2
    exact wp_out ⟨rfl, ret_eq (congrArg vB h2.symm)⟩
theorem c_rReserved (s : ByteArray) : evp f_waferref02_Reserved [vS s] .none [] = some ⟨.ret (vB (resP (tx s))), .none, []⟩ :=
  kt3_ev (wp_eq2 (X_rReserved_eq s) ⟨rfl, _, c_Has (ws := words) (by decide), rfl, rfl⟩)
/-! ### numbers -/
theorem y_rnumber (s : ByteArray) : kt3 f_waferref03_number [vS s] [] = Y_rnumber s := by delta Y_rnumber; rfl
def numV : Option Nat → AV
  | some v => .tuple [vI v, vB true]
  | none => .tuple [vI 0, vB false]
theorem c_rnumber {s : ByteArray} (hs : s.size < BIG) (hd : ∀ c ∈ tx s, digit c = true) : evp f_waferref03_number [vS s] .none [] = some ⟨.ret (numV (numFrom 0 (tx s))), .none, []⟩ := by
  refine kt3_ev (wp_eq2 (y_rnumber ..) ?_)
  refine loop3 (fun x : Nat × Nat => ⟨tm2 29 [(0, vS s), (4, (.val (.int .u64 x.1))), (5, vI x.2)], lm2 29 [], ⟨[], [], .none, 0⟩⟩) (fun x => x.2 ≤ s.size ∧ x.1 ≤ 9223372036854775807 ∧ numFrom x.1 ((tx s).drop x.2) = numFrom 0 (tx s)) (fun x => s.size - x.2) (0, 0) (by kernel_rfl) ⟨Nat.zero_le _, by simp, by simp⟩ ?_
  rintro ⟨v, i⟩ ⟨h1, h2, h3⟩
  simp only at h1 h2 h3
  rw [← h3]
  refine wp_eq2 (X_rnumberR_eq s v i) (wp_if2 (fun h => ?_) (fun h => ?_))
  · have h := of_decide_eq_true h
    obtain ⟨c, r, hdr, hc, hr⟩ := tx_at (s := s) (i := i) (by omega)
    have hdig := digit_toNat.1 (hd c (List.mem_of_mem_drop (by rw [hdr]; simp)))
    have ed : IntKind.u64.wrap (IntKind.u8.wrap ((c.toNat : Int) - 48)) = ((c.toNat - 48 : Nat) : Int) := by rw [IntKind.wrap_u8, wrapU64]; omega
    have ec : IntKind.u64.wrap ((IntKind.u64.wrap (9223372036854775807 - ((c.toNat - 48 : Nat) : Int))).tdiv 10) = (((9223372036854775807 - (c.toNat - 48)) / 10 : Nat) : Int) := by
      have e1 : IntKind.u64.wrap (9223372036854775807 - ((c.toNat - 48 : Nat) : Int)) = ((9223372036854775807 - (c.toNat - 48) : Nat) : Int) := by rw [wrapU64]; omega
      rw [e1]
      rw [Int.tdiv_eq_ediv_of_nonneg (Int.natCast_nonneg _), wrapU64]; omega
    rw [hdr, numFrom]
    refine wp_at hc ?_
    rw [ed, ec]
    refine wp_if2 (fun hv => ?_) (fun hv => ?_)
    · have hv := of_decide_eq_true hv
      rw [if_neg (by omega)]
      exact wp_out ⟨rfl, rfl⟩
    · have hv := of_decide_eq_false hv
      have hle : 10 * v + (c.toNat - 48) ≤ 9223372036854775807 := by omega
      rw [if_pos hle, hr]
      have ev : IntKind.u64.wrap (IntKind.u64.wrap (10 * (v : Int)) + ((c.toNat - 48 : Nat) : Int)) = ((10 * v + (c.toNat - 48) : Nat) : Int) := by rw [wrapU64, wrapU64]; omega
      rw [ev, kw_succ' (by omega)]
      exact wp_done ⟨(10 * v + (c.toNat - 48), i + 1), ⟨⟨by simp only; omega, hle, rfl⟩, by simp only; omega⟩, rfl⟩
  · have h := of_decide_eq_false h
    rw [List.drop_eq_nil_of_le (by rw [tx_len]; omega), numFrom]
    have ev : IntKind.i64.wrap (v : Int) = (v : Int) := by rw [IntKind.wrap_i64]; omega
    rw [ev]
    exact wp_out ⟨rfl, rfl⟩
/-! ### marks -/
theorem y_rmarks1 (s : ByteArray) (a : Nat) : (X_rmark s a).K ⟨tm2 33 [(0, (vS (s))), (1, (vI ((↑a : Int))))], lm2 33 [], ⟨[], [], .none, 0⟩⟩ = Y_rmarks1 s a := by delta Y_rmarks1 X_rmark; rfl
theorem c_rmark {s : ByteArray} {a : Nat} {c : UInt8} {r : T} (hs : s.size < BIG) (hd : (tx s).drop a = c :: r) : evp f_waferref03_mark [vS s, vI a] .none [] = some ⟨.ret (vI (if two (c :: r) then 2 else if marks.contains c then 1 else 0)), .none, []⟩ := by
  obtain ⟨ha, hc, hr⟩ := tx_of hd
  have h2 : ∀ p : ByteArray, (tx p).length = 2 → evp f_waferref03_two [vS s, vI a, vS p] .none [] = some ⟨.ret (vB (pre (tx p) (c :: r))), .none, []⟩ := fun p hp => by rw [c_rtwo hs (Nat.le_of_lt ha) hp, hd]
  refine kt3_ev (wp_eq2 (X_rmark_eq s a) (wp_stage ⟨_, h2 _ rfl, wp_if2 (fun h => ?_) (fun q1 => ⟨_, h2 _ rfl, wp_if2 (fun h => ?_) (fun q2 => ⟨_, h2 _ rfl, wp_if2 (fun h => ?_) (fun q3 => ?_)⟩)⟩)⟩))
  · have : two (c :: r) = true := by rw [two_pre]; simp only [tx] at h; simp [h]
    rw [if_pos this]; exact wp_out ⟨rfl, rfl⟩
  · have : two (c :: r) = true := by rw [two_pre]; simp only [tx] at h; simp [h]
    rw [if_pos this]; exact wp_out ⟨rfl, rfl⟩
  · have : two (c :: r) = true := by rw [two_pre]; simp only [tx] at h; simp [h]
    rw [if_pos this]; exact wp_out ⟨rfl, rfl⟩
  · have : two (c :: r) = false := by rw [two_pre]; simp only [tx] at q1 q2 q3; simp [q1, q2, q3]
    rw [if_neg (by rw [this]; decide)]
    refine wp_done (wp_eq2 (y_rmarks1 s a) (loop3 (fun i : Nat => ⟨tm2 33 [(0, (vS (s))), (1, (vI ((↑a : Int)))), (5, (vS ((⟨#[40, 41, 44, 59, 58, 61, 42, 43, 45, 47, 60, 124, 95, 46]⟩ : ByteArray)))), (6, (vI i))], lm2 33 [], ⟨[], [], .none, 0⟩⟩)
      (fun i => i ≤ 14 ∧ (marks.take i).contains c = false) (fun i => 14 - i) 0 (by kernel_rfl) ⟨Nat.zero_le _, rfl⟩ ?_))
    rintro i ⟨h1, hm⟩
    have hsz : (⟨#[40, 41, 44, 59, 58, 61, 42, 43, 45, 47, 60, 124, 95, 46]⟩ : ByteArray).size = 14 := rfl
    refine wp_eq2 (X_rmarkR_eq s a i) ?_
    rw [hsz]
    refine wp_if2 (fun h => ?_) (fun h => ?_)
    · have h := of_decide_eq_true h
      have hi : i < marks.length := by have : marks.length = 14 := rfl; omega
      have hm1 : (⟨#[40, 41, 44, 59, 58, 61, 42, 43, 45, 47, 60, 124, 95, 46]⟩ : ByteArray)[i]? = some marks[i] := by
        rw [getElem?_pos _ i (by rw [hsz]; omega)]; rfl
      refine wp_at hm1 (wp_at hc ?_)
      rw [ceq]
      refine wp_if2 (fun he => ?_) (fun he => ?_)
      · have he : marks[i] = c := by simpa using he
        rw [if_pos (by rw [← he]; simp)]
        exact wp_out ⟨rfl, rfl⟩
      · have he : ¬ marks[i] = c := by simpa using he
        rw [kw_succ (by omega)]
        refine wp_done ⟨i + 1, ⟨⟨by omega, ?_⟩, by omega⟩, rfl⟩
        rw [List.take_succ_eq_append_getElem hi]
        exact contains_snoc hm he
    · have h := of_decide_eq_false h
      have hm3 : marks.take i = marks := List.take_of_length_le (by have : marks.length = 14 := rfl; omega)
      rw [hm3] at hm
      rw [if_neg (by rw [hm]; decide)]
      exact wp_out ⟨rfl, rfl⟩
end Go.Proofs
end

section
/- TREES, printed by kt.py out of y1.txt -/
open Go Go.Eng
namespace Go.Proofs
set_option linter.unusedVariables false
set_option maxRecDepth 100000
@[irreducible] noncomputable def X_pIs (l : List (List AV)) (z : Int) (e : Int) (a : Int) (d : Int) (w : ByteArray) : KT := kt5 f_parsecore_Reader_Is [AV.ptr 0 0, vS w] [[AV.slice 4 l Own.no, vI z, vI e, vI a, vI d]]
theorem X_pIs_eq (l : List (List AV)) (z : Int) (e : Int) (a : Int) (d : Int) (w : ByteArray) : kt5 f_parsecore_Reader_Is [AV.ptr 0 0, vS w] [[AV.slice 4 l Own.no, vI z, vI e, vI a, vI d]] =
 (.stage
 (.branch (false)
 (.out (.need true
 (.branch (false)
 (.branch (0 == 3)
 (.need true
 (.ret ⟨(.ret (vB ((⟨#[]⟩ : ByteArray).toList == w.toList))), .none, [[(.slice 4 (l) .no), (vI (z)), (vI (e)), (vI (a)), (vI (d))]]⟩))
 (.branch (0 == 6)
 (.need true
 (.ret ⟨(.ret (vB ((⟨#[]⟩ : ByteArray).toList == w.toList))), .none, [[(.slice 4 (l) .no), (vI (z)), (vI (e)), (vI (a)), (vI (d))]]⟩))
 (.need true
 (.ret ⟨(.ret (vB false)), .none, [[(.slice 4 (l) .no), (vI (z)), (vI (e)), (vI (a)), (vI (d))]]⟩))))
 (.need true
 (.ret ⟨(.ret (vB false)), .none, [[(.slice 4 (l) .no), (vI (z)), (vI (e)), (vI (a)), (vI (d))]]⟩)))))
 (.branch (e != 0)
 (.out (.need true
 (.branch (false)
 (.branch (0 == 3)
 (.need true
 (.ret ⟨(.ret (vB ((⟨#[]⟩ : ByteArray).toList == w.toList))), .none, [[(.slice 4 (l) .no), (vI (z)), (vI (e)), (vI (a)), (vI (d))]]⟩))
 (.branch (0 == 6)
 (.need true
 (.ret ⟨(.ret (vB ((⟨#[]⟩ : ByteArray).toList == w.toList))), .none, [[(.slice 4 (l) .no), (vI (z)), (vI (e)), (vI (a)), (vI (d))]]⟩))
 (.need true
 (.ret ⟨(.ret (vB false)), .none, [[(.slice 4 (l) .no), (vI (z)), (vI (e)), (vI (a)), (vI (d))]]⟩))))
 (.need true
 (.ret ⟨(.ret (vB false)), .none, [[(.slice 4 (l) .no), (vI (z)), (vI (e)), (vI (a)), (vI (d))]]⟩)))))
 (.branch ((↑l.length : Int) == 0)
 (.out (.need true
 (.branch (false)
 (.branch (0 == 3)
 (.need true
 (.ret ⟨(.ret (vB ((⟨#[]⟩ : ByteArray).toList == w.toList))), .none, [[(.slice 4 (l) .no), (vI (z)), (vI (e)), (vI (a)), (vI (d))]]⟩))
 (.branch (0 == 6)
 (.need true
 (.ret ⟨(.ret (vB ((⟨#[]⟩ : ByteArray).toList == w.toList))), .none, [[(.slice 4 (l) .no), (vI (z)), (vI (e)), (vI (a)), (vI (d))]]⟩))
 (.need true
 (.ret ⟨(.ret (vB false)), .none, [[(.slice 4 (l) .no), (vI (z)), (vI (e)), (vI (a)), (vI (d))]]⟩))))
 (.need true
 (.ret ⟨(.ret (vB false)), .none, [[(.slice 4 (l) .no), (vI (z)), (vI (e)), (vI (a)), (vI (d))]]⟩)))))
 (.done ⟨tm2 28 [(0, (.ptr 0 0)), (2, (.lp 2 0 0))], lm2 28 [(2, (0, [(vI (0)), (vS ((⟨#[]⟩ : ByteArray))), (vI (0)), (vI (0))]))], ⟨[[(.slice 4 (l) .no), (vI (z)), (vI (e)), (vI (a)), (vI (d))]], [], .none, 1⟩⟩))))
 ((X_pIs l z e a d w).K)) := by kernel_rfl
theorem X_pIss1_eq (l : List (List AV)) (z : Int) (e : Int) (a : Int) (d : Int) (w : ByteArray) : (X_pIs l z e a d w).K ⟨tm2 28 [(0, (.ptr 0 0)), (2, (.lp 2 0 0))], lm2 28 [(2, (0, [(vI (0)), (vS ((⟨#[]⟩ : ByteArray))), (vI (0)), (vI (0))]))], ⟨[[(.slice 4 (l) .no), (vI (z)), (vI (e)), (vI (a)), (vI (d))]], [], .none, 1⟩⟩ =
 (.exI fun i =>
 (.exS fun s =>
 (.exI fun i1 =>
 (.exI fun i2 =>
 (.row (l) (0) [(vI (i)), (vS (s)), (vI (i1)), (vI (i2))]
 (.need true
 (.branch (true)
 (.branch (i == 3)
 (.need true
 (.ret ⟨(.ret (vB (s.toList == w.toList))), .none, [[(.slice 4 (l) .no), (vI (z)), (vI (e)), (vI (a)), (vI (d))]]⟩))
 (.branch (i == 6)
 (.need true
 (.ret ⟨(.ret (vB (s.toList == w.toList))), .none, [[(.slice 4 (l) .no), (vI (z)), (vI (e)), (vI (a)), (vI (d))]]⟩))
 (.need true
 (.ret ⟨(.ret (vB false)), .none, [[(.slice 4 (l) .no), (vI (z)), (vI (e)), (vI (a)), (vI (d))]]⟩))))
 (.need true
 (.ret ⟨(.ret (vB false)), .none, [[(.slice 4 (l) .no), (vI (z)), (vI (e)), (vI (a)), (vI (d))]]⟩))))))))) := by kernel_rfl
@[irreducible] noncomputable def X_pof (l : List (List AV)) (z : Int) (e : Int) (a : Int) (d : Int) (k : Int) : KT := kt5 f_parsecore_Reader_of [AV.ptr 0 0, vI k] [[AV.slice 4 l Own.no, vI z, vI e, vI a, vI d]]
theorem X_pof_eq (l : List (List AV)) (z : Int) (e : Int) (a : Int) (d : Int) (k : Int) : kt5 f_parsecore_Reader_of [AV.ptr 0 0, vI k] [[AV.slice 4 l Own.no, vI z, vI e, vI a, vI d]] =
 (.stage
 (.branch (false)
 (.out (.need true
 (.branch (false)
 (.need true
 (.ret ⟨(.ret (vB (0 == k))), .none, [[(.slice 4 (l) .no), (vI (z)), (vI (e)), (vI (a)), (vI (d))]]⟩))
 (.need true
 (.ret ⟨(.ret (vB false)), .none, [[(.slice 4 (l) .no), (vI (z)), (vI (e)), (vI (a)), (vI (d))]]⟩)))))
 (.branch (e != 0)
 (.out (.need true
 (.branch (false)
 (.need true
 (.ret ⟨(.ret (vB (0 == k))), .none, [[(.slice 4 (l) .no), (vI (z)), (vI (e)), (vI (a)), (vI (d))]]⟩))
 (.need true
 (.ret ⟨(.ret (vB false)), .none, [[(.slice 4 (l) .no), (vI (z)), (vI (e)), (vI (a)), (vI (d))]]⟩)))))
 (.branch ((↑l.length : Int) == 0)
 (.out (.need true
 (.branch (false)
 (.need true
 (.ret ⟨(.ret (vB (0 == k))), .none, [[(.slice 4 (l) .no), (vI (z)), (vI (e)), (vI (a)), (vI (d))]]⟩))
 (.need true
 (.ret ⟨(.ret (vB false)), .none, [[(.slice 4 (l) .no), (vI (z)), (vI (e)), (vI (a)), (vI (d))]]⟩)))))
 (.done ⟨tm2 28 [(0, (.ptr 0 0)), (2, (.lp 2 0 0))], lm2 28 [(2, (0, [(vI (0)), (vS ((⟨#[]⟩ : ByteArray))), (vI (0)), (vI (0))]))], ⟨[[(.slice 4 (l) .no), (vI (z)), (vI (e)), (vI (a)), (vI (d))]], [], .none, 1⟩⟩))))
 ((X_pof l z e a d k).K)) := by kernel_rfl
theorem X_pofs1_eq (l : List (List AV)) (z : Int) (e : Int) (a : Int) (d : Int) (k : Int) : (X_pof l z e a d k).K ⟨tm2 28 [(0, (.ptr 0 0)), (2, (.lp 2 0 0))], lm2 28 [(2, (0, [(vI (0)), (vS ((⟨#[]⟩ : ByteArray))), (vI (0)), (vI (0))]))], ⟨[[(.slice 4 (l) .no), (vI (z)), (vI (e)), (vI (a)), (vI (d))]], [], .none, 1⟩⟩ =
 (.exI fun i =>
 (.exS fun s =>
 (.exI fun i1 =>
 (.exI fun i2 =>
 (.row (l) (0) [(vI (i)), (vS (s)), (vI (i1)), (vI (i2))]
 (.need true
 (.branch (true)
 (.need true
 (.ret ⟨(.ret (vB (i == k))), .none, [[(.slice 4 (l) .no), (vI (z)), (vI (e)), (vI (a)), (vI (d))]]⟩))
 (.need true
 (.ret ⟨(.ret (vB false)), .none, [[(.slice 4 (l) .no), (vI (z)), (vI (e)), (vI (a)), (vI (d))]]⟩))))))))) := by kernel_rfl
theorem X_pTake_eq (l : List (List AV)) (z : Int) (e : Int) (a : Int) (d : Int) (w : ByteArray) : kt5 f_parsecore_Reader_Take [AV.ptr 0 0, vS w] [[AV.slice 4 l Own.no, vI z, vI e, vI a, vI d]] =
 (.exB fun b =>
 (.call f_parsecore_Reader_Is [(.ptr 0 0), (vS (w))] .none [[(.slice 4 (l) .no), (vI (z)), (vI (e)), (vI (a)), (vI (d))]] ⟨(.ret (vB (b))), .none, [[(.slice 4 (l) .no), (vI (z)), (vI (e)), (vI (a)), (vI (d))]]⟩
 (.branch (!b)
 (.need true
 (.ret ⟨(.ret (vB false)), .none, [[(.slice 4 (l) .no), (vI (z)), (vI (e)), (vI (a)), (vI (d))]]⟩))
 (.need (decide ((l = [] ∨ (fun x => x.size) Pg.types[y_lex_Token] = 4) ∧ (0 : Int) ≤ 1 ∧ 1 ≤ (↑l.length : Int) ∧ (↑l.length : Int) ≤ (↑l.length : Int)))
 (.need true
 (.ret ⟨(.ret (vB true)), .none, [[(.slice 4 (List.drop (Int.toNat 1) l) .no), (vI (z)), (vI (e)), (vI (a)), (vI (d))]]⟩)))))) := by kernel_rfl
@[irreducible] noncomputable def X_pNeed (l : List (List AV)) (z : Int) (d : Int) (w : ByteArray) : KT := kt5 f_parsecore_Reader_Need [AV.ptr 0 0, vS w] [[AV.slice 4 l Own.no, vI z, vI 0, vI 0, vI d]]
theorem X_pNeed_eq (l : List (List AV)) (z : Int) (d : Int) (w : ByteArray) : kt5 f_parsecore_Reader_Need [AV.ptr 0 0, vS w] [[AV.slice 4 l Own.no, vI z, vI 0, vI 0, vI d]] =
 (.stage
 (.branch (false)
 (.branch (!false)
 (.branch (decide (d > 0))
 (.out (.need (lowss 1 (l))
 (.need true
 (.ret ⟨(.panic (.iface y_parsecore_failure (.agg []))), .none, [[(.slice 4 (l) .no), (vI (z)), (vI (0)), (vI (0)), (vI (d))]]⟩))))
 (.out (.need (lowss 1 (l))
 (.need true
 (.ret ⟨(.ret (.tuple [])), .none, [[(.slice 4 (l) .no), (vI (z)), (vI (0)), (vI (0)), (vI (d))]]⟩)))))
 (.out (.need (lowss 1 (l))
 (.need true
 (.ret ⟨(.ret (.tuple [])), .none, [[(.slice 4 (l) .no), (vI (z)), (vI (0)), (vI (0)), (vI (d))]]⟩)))))
 (.branch (0 != 0)
 (.branch (!false)
 (.branch (decide (d > 0))
 (.out (.need (lowss 1 (l))
 (.need true
 (.ret ⟨(.panic (.iface y_parsecore_failure (.agg []))), .none, [[(.slice 4 (l) .no), (vI (z)), (vI (0)), (vI (0)), (vI (d))]]⟩))))
 (.out (.need (lowss 1 (l))
 (.need true
 (.ret ⟨(.ret (.tuple [])), .none, [[(.slice 4 (l) .no), (vI (z)), (vI (0)), (vI (0)), (vI (d))]]⟩)))))
 (.out (.need (lowss 1 (l))
 (.need true
 (.ret ⟨(.ret (.tuple [])), .none, [[(.slice 4 (l) .no), (vI (z)), (vI (0)), (vI (0)), (vI (d))]]⟩)))))
 (.done ⟨tm2 37 [(1, (.func (.func f_parsecore_Reader_Need_1) [] [(.ref [(vS (w))])])), (2, (.ref [(.ptr 0 0)])), (4, (.ptr 1 0))], lm2 37 [], ⟨[[(.slice 4 (l) .no), (vI (z)), (vI (0)), (vI (0)), (vI (d))], [(vB false)]], [], .none, 1⟩⟩)))
 ((X_pNeed l z d w).K)) := by kernel_rfl
theorem X_pNeeds1_eq (l : List (List AV)) (z : Int) (d : Int) (w : ByteArray) : (X_pNeed l z d w).K ⟨tm2 37 [(1, (.func (.func f_parsecore_Reader_Need_1) [] [(.ref [(vS (w))])])), (2, (.ref [(.ptr 0 0)])), (4, (.ptr 1 0))], lm2 37 [], ⟨[[(.slice 4 (l) .no), (vI (z)), (vI (0)), (vI (0)), (vI (d))], [(vB false)]], [], .none, 1⟩⟩ =
 (.exB fun b =>
 (.exR fun l1 =>
 (.exI fun i =>
 (.exI fun i1 =>
 (.exI fun i2 =>
 (.exI fun i3 =>
 (.exB fun b1 =>
 (.call f_parsecore_Reader_Take [(.ptr 0 0), (vS (w))] .none [[(.slice 4 (l) .no), (vI (z)), (vI (0)), (vI (0)), (vI (IntKind.i64.wrap (d + 1)))], [(vB false)]] ⟨(.ret (vB (b))), .none, [[(.slice 4 (l1) .no), (vI (i)), (vI (i1)), (vI (i2)), (vI (i3))], [(vB (b1))]]⟩
 (.branch (!b)
 (.branch ((↑l1.length : Int) == 0)
 (.need true
 (.need true
 (.need true
 (.branch (false)
 (.need (lowss 1 (l1))
 (.need true
 (.ret ⟨(.ret (.tuple [])), .none, [[(.slice 4 (l1) .no), (vI (i)), (vI (11)), (vI (i)), (vI (IntKind.i64.wrap (i3 - 1)))]]⟩)))
 (.branch (true)
 (.branch (decide (IntKind.i64.wrap (i3 - 1) > 0))
 (.need (lowss 1 (l1))
 (.need true
 (.ret ⟨(.panic (.iface y_parsecore_failure (.agg []))), .none, [[(.slice 4 (l1) .no), (vI (i)), (vI (11)), (vI (i)), (vI (IntKind.i64.wrap (i3 - 1)))]]⟩)))
 (.need (lowss 1 (l1))
 (.need true
 (.ret ⟨(.ret (.tuple [])), .none, [[(.slice 4 (l1) .no), (vI (i)), (vI (11)), (vI (i)), (vI (IntKind.i64.wrap (i3 - 1)))]]⟩))))
 (.need (lowss 1 (l1))
 (.need true
 (.ret ⟨(.panic (.iface y_parsecore_failure (.agg []))), .none, [[(.slice 4 (l1) .no), (vI (i)), (vI (11)), (vI (i)), (vI (IntKind.i64.wrap (i3 - 1)))]]⟩))))))))
 (.exI fun i4 =>
 (.exS fun s =>
 (.exI fun i5 =>
 (.exI fun i6 =>
 (.row (l1) (0) [(vI (i4)), (vS (s)), (vI (i5)), (vI (i6))]
 (.need true
 (.need true
 (.need true
 (.branch (false)
 (.need (lowss 1 (l1))
 (.need true
 (.ret ⟨(.ret (.tuple [])), .none, [[(.slice 4 (l1) .no), (vI (i)), (vI (11)), (vI (i6)), (vI (IntKind.i64.wrap (i3 - 1)))]]⟩)))
 (.branch (true)
 (.branch (decide (IntKind.i64.wrap (i3 - 1) > 0))
 (.need (lowss 1 (l1))
 (.need true
 (.ret ⟨(.panic (.iface y_parsecore_failure (.agg []))), .none, [[(.slice 4 (l1) .no), (vI (i)), (vI (11)), (vI (i6)), (vI (IntKind.i64.wrap (i3 - 1)))]]⟩)))
 (.need (lowss 1 (l1))
 (.need true
 (.ret ⟨(.ret (.tuple [])), .none, [[(.slice 4 (l1) .no), (vI (i)), (vI (11)), (vI (i6)), (vI (IntKind.i64.wrap (i3 - 1)))]]⟩))))
 (.need (lowss 1 (l1))
 (.need true
 (.ret ⟨(.panic (.iface y_parsecore_failure (.agg []))), .none, [[(.slice 4 (l1) .no), (vI (i)), (vI (11)), (vI (i6)), (vI (IntKind.i64.wrap (i3 - 1)))]]⟩))))))))))))))
 (.need true
 (.branch (true)
 (.need (lowss 1 (l1))
 (.need true
 (.ret ⟨(.ret (.tuple [])), .none, [[(.slice 4 (l1) .no), (vI (i)), (vI (i1)), (vI (i2)), (vI (IntKind.i64.wrap (i3 - 1)))]]⟩)))
 (.branch (false)
 (.branch (decide (IntKind.i64.wrap (i3 - 1) > 0))
 (.need (lowss 1 (l1))
 (.need true
 (.ret ⟨(.panic (.iface y_parsecore_failure (.agg []))), .none, [[(.slice 4 (l1) .no), (vI (i)), (vI (i1)), (vI (i2)), (vI (IntKind.i64.wrap (i3 - 1)))]]⟩)))
 (.need (lowss 1 (l1))
 (.need true
 (.ret ⟨(.ret (.tuple [])), .none, [[(.slice 4 (l1) .no), (vI (i)), (vI (i1)), (vI (i2)), (vI (IntKind.i64.wrap (i3 - 1)))]]⟩))))
 .fail)))))))))))) := by kernel_rfl
@[irreducible] noncomputable def X_ptaken (l : List (List AV)) (z : Int) (d : Int) (k : Int) : KT := kt5 f_parsecore_Reader_taken [AV.ptr 0 0, vI k] [[AV.slice 4 l Own.no, vI z, vI 0, vI 0, vI d]]
theorem X_ptaken_eq (l : List (List AV)) (z : Int) (d : Int) (k : Int) : kt5 f_parsecore_Reader_taken [AV.ptr 0 0, vI k] [[AV.slice 4 l Own.no, vI z, vI 0, vI 0, vI d]] =
 (.stage
 (.branch (false)
 (.branch (!false)
 (.branch (decide (d > 0))
 (.out (.need (lowss 1 (l))
 (.need true
 (.ret ⟨(.panic (.iface y_parsecore_failure (.agg []))), .none, [[(.slice 4 (l) .no), (vI (z)), (vI (0)), (vI (0)), (vI (d))]]⟩))))
 (.out (.need (lowss 1 (l))
 (.need true
 (.ret ⟨(.ret (vS ((⟨#[]⟩ : ByteArray)))), .none, [[(.slice 4 (l) .no), (vI (z)), (vI (0)), (vI (0)), (vI (d))]]⟩)))))
 (.out (.need (lowss 1 (l))
 (.need true
 (.ret ⟨(.ret (vS ((⟨#[]⟩ : ByteArray)))), .none, [[(.slice 4 (l) .no), (vI (z)), (vI (0)), (vI (0)), (vI (d))]]⟩)))))
 (.branch (0 != 0)
 (.branch (!false)
 (.branch (decide (d > 0))
 (.out (.need (lowss 1 (l))
 (.need true
 (.ret ⟨(.panic (.iface y_parsecore_failure (.agg []))), .none, [[(.slice 4 (l) .no), (vI (z)), (vI (0)), (vI (0)), (vI (d))]]⟩))))
 (.out (.need (lowss 1 (l))
 (.need true
 (.ret ⟨(.ret (vS ((⟨#[]⟩ : ByteArray)))), .none, [[(.slice 4 (l) .no), (vI (z)), (vI (0)), (vI (0)), (vI (d))]]⟩)))))
 (.out (.need (lowss 1 (l))
 (.need true
 (.ret ⟨(.ret (vS ((⟨#[]⟩ : ByteArray)))), .none, [[(.slice 4 (l) .no), (vI (z)), (vI (0)), (vI (0)), (vI (d))]]⟩)))))
 (.done ⟨tm2 37 [(1, (.func (.func f_parsecore_Reader_taken_1) [] [(.ref [(vI (k))])])), (2, (.ref [(.ptr 0 0)])), (4, (.ptr 1 0))], lm2 37 [], ⟨[[(.slice 4 (l) .no), (vI (z)), (vI (0)), (vI (0)), (vI (d))], [(vS ((⟨#[]⟩ : ByteArray)))]], [], .none, 1⟩⟩)))
 ((X_ptaken l z d k).K)) := by kernel_rfl
@[irreducible] noncomputable def X_ptakens1 (l : List (List AV)) (z : Int) (d : Int) (k : Int) : KT := (X_ptaken l z d k).K ⟨tm2 37 [(1, (.func (.func f_parsecore_Reader_taken_1) [] [(.ref [(vI (k))])])), (2, (.ref [(.ptr 0 0)])), (4, (.ptr 1 0))], lm2 37 [], ⟨[[(.slice 4 (l) .no), (vI (z)), (vI (0)), (vI (0)), (vI (d))], [(vS ((⟨#[]⟩ : ByteArray)))]], [], .none, 1⟩⟩
theorem X_ptakens1_eq (l : List (List AV)) (z : Int) (d : Int) (k : Int) : (X_ptaken l z d k).K ⟨tm2 37 [(1, (.func (.func f_parsecore_Reader_taken_1) [] [(.ref [(vI (k))])])), (2, (.ref [(.ptr 0 0)])), (4, (.ptr 1 0))], lm2 37 [], ⟨[[(.slice 4 (l) .no), (vI (z)), (vI (0)), (vI (0)), (vI (d))], [(vS ((⟨#[]⟩ : ByteArray)))]], [], .none, 1⟩⟩ =
 (.stage
 (.exB fun b =>
 (.call f_parsecore_Reader_of [(.ptr 0 0), (vI (k))] .none [[(.slice 4 (l) .no), (vI (z)), (vI (0)), (vI (0)), (vI (IntKind.i64.wrap (d + 1)))], [(vS ((⟨#[]⟩ : ByteArray)))]] ⟨(.ret (vB (b))), .none, [[(.slice 4 (l) .no), (vI (z)), (vI (0)), (vI (0)), (vI (IntKind.i64.wrap (d + 1)))], [(vS ((⟨#[]⟩ : ByteArray)))]]⟩
 (.branch (!b)
 (.branch ((↑l.length : Int) == 0)
 (.need true
 (.need true
 (.out (.need true
 (.branch (false)
 (.need (lowss 1 (l))
 (.need true
 (.ret ⟨(.ret (vS ((⟨#[]⟩ : ByteArray)))), .none, [[(.slice 4 (l) .no), (vI (z)), (vI (11)), (vI (z)), (vI (IntKind.i64.wrap (IntKind.i64.wrap (d + 1) - 1)))]]⟩)))
 (.branch (true)
 (.branch (decide (IntKind.i64.wrap (IntKind.i64.wrap (d + 1) - 1) > 0))
 (.need (lowss 1 (l))
 (.need true
 (.ret ⟨(.panic (.iface y_parsecore_failure (.agg []))), .none, [[(.slice 4 (l) .no), (vI (z)), (vI (11)), (vI (z)), (vI (IntKind.i64.wrap (IntKind.i64.wrap (d + 1) - 1)))]]⟩)))
 (.need (lowss 1 (l))
 (.need true
 (.ret ⟨(.ret (vS ((⟨#[]⟩ : ByteArray)))), .none, [[(.slice 4 (l) .no), (vI (z)), (vI (11)), (vI (z)), (vI (IntKind.i64.wrap (IntKind.i64.wrap (d + 1) - 1)))]]⟩))))
 (.need (lowss 1 (l))
 (.need true
 (.ret ⟨(.panic (.iface y_parsecore_failure (.agg []))), .none, [[(.slice 4 (l) .no), (vI (z)), (vI (11)), (vI (z)), (vI (IntKind.i64.wrap (IntKind.i64.wrap (d + 1) - 1)))]]⟩)))))))))
 (.exI fun i =>
 (.exS fun s =>
 (.exI fun i1 =>
 (.exI fun i2 =>
 (.row (l) (0) [(vI (i)), (vS (s)), (vI (i1)), (vI (i2))]
 (.need true
 (.need true
 (.out (.need true
 (.branch (false)
 (.need (lowss 1 (l))
 (.need true
 (.ret ⟨(.ret (vS ((⟨#[]⟩ : ByteArray)))), .none, [[(.slice 4 (l) .no), (vI (z)), (vI (11)), (vI (i2)), (vI (IntKind.i64.wrap (IntKind.i64.wrap (d + 1) - 1)))]]⟩)))
 (.branch (true)
 (.branch (decide (IntKind.i64.wrap (IntKind.i64.wrap (d + 1) - 1) > 0))
 (.need (lowss 1 (l))
 (.need true
 (.ret ⟨(.panic (.iface y_parsecore_failure (.agg []))), .none, [[(.slice 4 (l) .no), (vI (z)), (vI (11)), (vI (i2)), (vI (IntKind.i64.wrap (IntKind.i64.wrap (d + 1) - 1)))]]⟩)))
 (.need (lowss 1 (l))
 (.need true
 (.ret ⟨(.ret (vS ((⟨#[]⟩ : ByteArray)))), .none, [[(.slice 4 (l) .no), (vI (z)), (vI (11)), (vI (i2)), (vI (IntKind.i64.wrap (IntKind.i64.wrap (d + 1) - 1)))]]⟩))))
 (.need (lowss 1 (l))
 (.need true
 (.ret ⟨(.panic (.iface y_parsecore_failure (.agg []))), .none, [[(.slice 4 (l) .no), (vI (z)), (vI (11)), (vI (i2)), (vI (IntKind.i64.wrap (IntKind.i64.wrap (d + 1) - 1)))]]⟩)))))))))))))))
 (.done ⟨tm2 29 [(0, (.ptr 0 0))], lm2 29 [], ⟨[[(.slice 4 (l) .no), (vI (z)), (vI (0)), (vI (0)), (vI (IntKind.i64.wrap (d + 1)))], [(vS ((⟨#[]⟩ : ByteArray)))]], [], .none, 2⟩⟩))))
 ((X_ptakens1 l z d k).K)) := by kernel_rfl
theorem X_ptakens2_eq (l : List (List AV)) (z : Int) (d : Int) (k : Int) : (X_ptakens1 l z d k).K ⟨tm2 29 [(0, (.ptr 0 0))], lm2 29 [], ⟨[[(.slice 4 (l) .no), (vI (z)), (vI (0)), (vI (0)), (vI (IntKind.i64.wrap (d + 1)))], [(vS ((⟨#[]⟩ : ByteArray)))]], [], .none, 2⟩⟩ =
 (.exI fun i =>
 (.exS fun s =>
 (.exI fun i1 =>
 (.exI fun i2 =>
 (.row (l) (0) [(vI (i)), (vS (s)), (vI (i1)), (vI (i2))]
 (.need (decide ((l = [] ∨ (fun x => x.size) Pg.types[y_lex_Token] = 4) ∧ (0 : Int) ≤ 1 ∧ 1 ≤ (↑l.length : Int) ∧ (↑l.length : Int) ≤ (↑l.length : Int)))
 (.need true
 (.branch (true)
 (.need (lowss 1 (List.drop (Int.toNat 1) l))
 (.need true
 (.ret ⟨(.ret (vS (s))), .none, [[(.slice 4 (List.drop (Int.toNat 1) l) .no), (vI (z)), (vI (0)), (vI (0)), (vI (IntKind.i64.wrap (IntKind.i64.wrap (d + 1) - 1)))]]⟩)))
 (.branch (false)
 (.branch (decide (IntKind.i64.wrap (IntKind.i64.wrap (d + 1) - 1) > 0))
 (.need (lowss 1 (List.drop (Int.toNat 1) l))
 (.need true
 (.ret ⟨(.panic (.iface y_parsecore_failure (.agg []))), .none, [[(.slice 4 (List.drop (Int.toNat 1) l) .no), (vI (z)), (vI (0)), (vI (0)), (vI (IntKind.i64.wrap (IntKind.i64.wrap (d + 1) - 1)))]]⟩)))
 (.need (lowss 1 (List.drop (Int.toNat 1) l))
 (.need true
 (.ret ⟨(.ret (vS ((⟨#[]⟩ : ByteArray)))), .none, [[(.slice 4 (List.drop (Int.toNat 1) l) .no), (vI (z)), (vI (0)), (vI (0)), (vI (IntKind.i64.wrap (IntKind.i64.wrap (d + 1) - 1)))]]⟩))))
 .fail))))))))) := by kernel_rfl
@[irreducible] noncomputable def X_pTy (l : List (List AV)) (z : Int) (d : Int) : KT := kt5 f_parsecore_Reader_Ty [AV.ptr 0 0] [[AV.slice 4 l Own.no, vI z, vI 0, vI 0, vI d]]
theorem X_pTy_eq (l : List (List AV)) (z : Int) (d : Int) : kt5 f_parsecore_Reader_Ty [AV.ptr 0 0] [[AV.slice 4 l Own.no, vI z, vI 0, vI 0, vI d]] =
 (.stage
 (.branch (false)
 (.branch (!false)
 (.branch (decide (d > 0))
 (.out (.need (lowss 1 (l))
 (.need true
 (.ret ⟨(.panic (.iface y_parsecore_failure (.agg []))), .none, [[(.slice 4 (l) .no), (vI (z)), (vI (0)), (vI (0)), (vI (d))]]⟩))))
 (.out (.need (lowss 1 [])
 (.need (lowss 1 [])
 (.need (lowss 1 (l))
 (.need true
 (.ret ⟨(.ret (.agg [(vI (0)), (vS ((⟨#[]⟩ : ByteArray))), (.slice 1 [] .no), (.slice 4 [] .no)])), .none, [[(.slice 4 (l) .no), (vI (z)), (vI (0)), (vI (0)), (vI (d))]]⟩)))))))
 (.out (.need (lowss 1 [])
 (.need (lowss 1 [])
 (.need (lowss 1 (l))
 (.need true
 (.ret ⟨(.ret (.agg [(vI (0)), (vS ((⟨#[]⟩ : ByteArray))), (.slice 1 [] .no), (.slice 4 [] .no)])), .none, [[(.slice 4 (l) .no), (vI (z)), (vI (0)), (vI (0)), (vI (d))]]⟩)))))))
 (.branch (0 != 0)
 (.branch (!false)
 (.branch (decide (d > 0))
 (.out (.need (lowss 1 (l))
 (.need true
 (.ret ⟨(.panic (.iface y_parsecore_failure (.agg []))), .none, [[(.slice 4 (l) .no), (vI (z)), (vI (0)), (vI (0)), (vI (d))]]⟩))))
 (.out (.need (lowss 1 [])
 (.need (lowss 1 [])
 (.need (lowss 1 (l))
 (.need true
 (.ret ⟨(.ret (.agg [(vI (0)), (vS ((⟨#[]⟩ : ByteArray))), (.slice 1 [] .no), (.slice 4 [] .no)])), .none, [[(.slice 4 (l) .no), (vI (z)), (vI (0)), (vI (0)), (vI (d))]]⟩)))))))
 (.out (.need (lowss 1 [])
 (.need (lowss 1 [])
 (.need (lowss 1 (l))
 (.need true
 (.ret ⟨(.ret (.agg [(vI (0)), (vS ((⟨#[]⟩ : ByteArray))), (.slice 1 [] .no), (.slice 4 [] .no)])), .none, [[(.slice 4 (l) .no), (vI (z)), (vI (0)), (vI (0)), (vI (d))]]⟩)))))))
 (.done ⟨tm2 37 [(1, (.func (.func f_parsecore_Reader_ty) [] [])), (2, (.ref [(.ptr 0 0)])), (4, (.ptr 1 0))], lm2 37 [], ⟨[[(.slice 4 (l) .no), (vI (z)), (vI (0)), (vI (0)), (vI (d))], [(vI (0)), (vS ((⟨#[]⟩ : ByteArray))), (.slice 0 [] .full), (.slice 0 [] .full)]], [], .none, 1⟩⟩)))
 ((X_pTy l z d).K)) := by kernel_rfl
theorem X_pTys1_eq (l : List (List AV)) (z : Int) (d : Int) : (X_pTy l z d).K ⟨tm2 37 [(1, (.func (.func f_parsecore_Reader_ty) [] [])), (2, (.ref [(.ptr 0 0)])), (4, (.ptr 1 0))], lm2 37 [], ⟨[[(.slice 4 (l) .no), (vI (z)), (vI (0)), (vI (0)), (vI (d))], [(vI (0)), (vS ((⟨#[]⟩ : ByteArray))), (.slice 0 [] .full), (.slice 0 [] .full)]], [], .none, 1⟩⟩ =
 (.alt
 (.exI fun i =>
 (.exS fun s =>
 (.exR fun l1 =>
 (.exR fun l2 =>
 (.exR fun l3 =>
 (.exI fun i1 =>
 (.exI fun i2 =>
 (.exI fun i3 =>
 (.exI fun i4 =>
 (.exI fun i5 =>
 (.exS fun s1 =>
 (.exR fun l4 =>
 (.exR fun l5 =>
 (.call f_parsecore_Reader_ty [(.ptr 0 0)] .none [[(.slice 4 (l) .no), (vI (z)), (vI (0)), (vI (0)), (vI (IntKind.i64.wrap (d + 1)))], [(vI (0)), (vS ((⟨#[]⟩ : ByteArray))), (.slice 0 [] .full), (.slice 0 [] .full)]] ⟨(.ret (.agg [(vI (i)), (vS (s)), (.slice 1 (l1) .no), (.slice 4 (l2) .no)])), .none, [[(.slice 4 (l3) .no), (vI (i1)), (vI (i2)), (vI (i3)), (vI (i4))], [(vI (i5)), (vS (s1)), (.slice 0 (l4) .full), (.slice 0 (l5) .full)]]⟩
 (.branch (true)
 (.need (lowss 1 (l1))
 (.need (lowss 1 (l2))
 (.need (lowss 1 (l3))
 (.need true
 (.ret ⟨(.ret (.agg [(vI (i)), (vS (s)), (.slice 1 (l1) .no), (.slice 4 (l2) .no)])), .none, [[(.slice 4 (l3) .no), (vI (i1)), (vI (i2)), (vI (i3)), (vI (IntKind.i64.wrap (i4 - 1)))]]⟩)))))
 (.branch (false)
 (.branch (decide (IntKind.i64.wrap (i4 - 1) > 0))
 (.need (lowss 1 (l3))
 (.need true
 (.ret ⟨(.panic (.iface y_parsecore_failure (.agg []))), .none, [[(.slice 4 (l3) .no), (vI (i1)), (vI (i2)), (vI (i3)), (vI (IntKind.i64.wrap (i4 - 1)))]]⟩)))
 (.need (lowss 1 [])
 (.need (lowss 1 [])
 (.need (lowss 1 (l3))
 (.need true
 (.ret ⟨(.ret (.agg [(vI (0)), (vS ((⟨#[]⟩ : ByteArray))), (.slice 1 [] .no), (.slice 4 [] .no)])), .none, [[(.slice 4 (l3) .no), (vI (i1)), (vI (i2)), (vI (i3)), (vI (IntKind.i64.wrap (i4 - 1)))]]⟩))))))
 .fail))))))))))))))))
 (.exR fun l1 =>
 (.exI fun i =>
 (.exI fun i1 =>
 (.exI fun i2 =>
 (.exI fun i3 =>
 (.exI fun i4 =>
 (.exS fun s =>
 (.exR fun l2 =>
 (.exR fun l3 =>
 (.call f_parsecore_Reader_ty [(.ptr 0 0)] .none [[(.slice 4 (l) .no), (vI (z)), (vI (0)), (vI (0)), (vI (IntKind.i64.wrap (d + 1)))], [(vI (0)), (vS ((⟨#[]⟩ : ByteArray))), (.slice 0 [] .full), (.slice 0 [] .full)]] ⟨(.panic (.iface y_parsecore_failure (.agg []))), .none, [[(.slice 4 (l1) .no), (vI (i)), (vI (i1)), (vI (i2)), (vI (i3))], [(vI (i4)), (vS (s)), (.slice 0 (l2) .full), (.slice 0 (l3) .full)]]⟩
 (.branch (false)
 (.need (lowss 1 (l2))
 (.need (lowss 1 (l3))
 (.need (lowss 1 (l1))
 (.need true
 (.ret ⟨(.ret (.agg [(vI (i4)), (vS (s)), (normS Pg (y_s_string : TypeId) (AV.slice 0 l2 Own.full).dis.dis.dis), (normS Pg (y_s_api_Ty : TypeId) (AV.slice 0 l3 Own.full).dis.dis.dis)])), .none, [[(.slice 4 (l1) .no), (vI (i)), (vI (i1)), (vI (i2)), (vI (IntKind.i64.wrap (i3 - 1)))]]⟩)))))
 (.branch (true)
 (.branch (decide (IntKind.i64.wrap (i3 - 1) > 0))
 (.need (lowss 1 (l1))
 (.need true
 (.ret ⟨(.panic (.iface y_parsecore_failure (.agg []))), .none, [[(.slice 4 (l1) .no), (vI (i)), (vI (i1)), (vI (i2)), (vI (IntKind.i64.wrap (i3 - 1)))]]⟩)))
 (.need (lowss 1 [])
 (.need (lowss 1 [])
 (.need (lowss 1 (l1))
 (.need true
 (.ret ⟨(.ret (.agg [(vI (0)), (vS ((⟨#[]⟩ : ByteArray))), (.slice 1 [] .no), (.slice 4 [] .no)])), .none, [[(.slice 4 (l1) .no), (vI (i)), (vI (i1)), (vI (i2)), (vI (IntKind.i64.wrap (i3 - 1)))]]⟩))))))
 (.need (lowss 1 (l1))
 (.need true
 (.ret ⟨(.panic (.iface y_parsecore_failure (.agg []))), .none, [[(.slice 4 (l1) .no), (vI (i)), (vI (i1)), (vI (i2)), (vI (IntKind.i64.wrap (i3 - 1)))]]⟩)))))))))))))))) := by kernel_rfl
theorem X_pty_eq (l : List (List AV)) (z : Int) (d : Int) : kt5 f_parsecore_Reader_ty [AV.ptr 0 0] [[AV.slice 4 l Own.no, vI z, vI 0, vI 0, vI d]] =
 (.alt
 (.exI fun i =>
 (.exS fun s =>
 (.exR fun l1 =>
 (.exR fun l2 =>
 (.exR fun l3 =>
 (.exI fun i1 =>
 (.exI fun i2 =>
 (.exI fun i3 =>
 (.exI fun i4 =>
 (.call f_parsecore_Reader_pairty [(.ptr 0 0)] .none [[(.slice 4 (l) .no), (vI (z)), (vI (0)), (vI (0)), (vI (d))]] ⟨(.ret (.agg [(vI (i)), (vS (s)), (.slice 1 (l1) .no), (.slice 4 (l2) .no)])), .none, [[(.slice 4 (l3) .no), (vI (i1)), (vI (i2)), (vI (i3)), (vI (i4))]]⟩
 (.exB fun b =>
 (.exR fun l4 =>
 (.exI fun i5 =>
 (.exI fun i6 =>
 (.exI fun i7 =>
 (.exI fun i8 =>
 (.call f_parsecore_Reader_Take [(.ptr 0 0), (vS ((⟨#[45, 62]⟩ : ByteArray)))] .none [[(.slice 4 (l3) .no), (vI (i1)), (vI (i2)), (vI (i3)), (vI (i4))]] ⟨(.ret (vB (b))), .none, [[(.slice 4 (l4) .no), (vI (i5)), (vI (i6)), (vI (i7)), (vI (i8))]]⟩
 (.branch (b)
 (.alt
 (.exI fun i9 =>
 (.exS fun s1 =>
 (.exR fun l5 =>
 (.exR fun l6 =>
 (.exR fun l7 =>
 (.exI fun i10 =>
 (.exI fun i11 =>
 (.exI fun i12 =>
 (.exI fun i13 =>
 (.call f_parsecore_Reader_Ty [(.ptr 0 0)] .none [[(.slice 4 (l4) .no), (vI (i5)), (vI (i6)), (vI (i7)), (vI (i8))]] ⟨(.ret (.agg [(vI (i9)), (vS (s1)), (.slice 1 (l5) .no), (.slice 4 (l6) .no)])), .none, [[(.slice 4 (l7) .no), (vI (i10)), (vI (i11)), (vI (i12)), (vI (i13))]]⟩
 (.need true
 (.ret ⟨(.ret (.agg [(vI (3)), (vS ((⟨#[]⟩ : ByteArray))), (.slice 1 [] .no), (.slice 4 [[(vI (i)), (vS (s)), (.slice 1 (l1) .no), (.slice 4 (l2) .no)], [(vI (i9)), (vS (s1)), (.slice 1 (l5) .no), (.slice 4 (l6) .no)]] .no)])), .none, [[(.slice 4 (l7) .no), (vI (i10)), (vI (i11)), (vI (i12)), (vI (i13))]]⟩))))))))))))
 (.exR fun l5 =>
 (.exI fun i9 =>
 (.exI fun i10 =>
 (.exI fun i11 =>
 (.exI fun i12 =>
 (.call f_parsecore_Reader_Ty [(.ptr 0 0)] .none [[(.slice 4 (l4) .no), (vI (i5)), (vI (i6)), (vI (i7)), (vI (i8))]] ⟨(.panic (.iface y_parsecore_failure (.agg []))), .none, [[(.slice 4 (l5) .no), (vI (i9)), (vI (i10)), (vI (i11)), (vI (i12))]]⟩
 (.need true
 (.ret ⟨(.panic (.iface y_parsecore_failure (.agg []))), .none, [[(.slice 4 (l5) .no), (vI (i9)), (vI (i10)), (vI (i11)), (vI (i12))]]⟩)))))))))
 (.need true
 (.ret ⟨(.ret (.agg [(vI (i)), (vS (s)), (.slice 1 (l1) .no), (.slice 4 (l2) .no)])), .none, [[(.slice 4 (l4) .no), (vI (i5)), (vI (i6)), (vI (i7)), (vI (i8))]]⟩))))))))))))))))))))
 (.exR fun l1 =>
 (.exI fun i =>
 (.exI fun i1 =>
 (.exI fun i2 =>
 (.exI fun i3 =>
 (.call f_parsecore_Reader_pairty [(.ptr 0 0)] .none [[(.slice 4 (l) .no), (vI (z)), (vI (0)), (vI (0)), (vI (d))]] ⟨(.panic (.iface y_parsecore_failure (.agg []))), .none, [[(.slice 4 (l1) .no), (vI (i)), (vI (i1)), (vI (i2)), (vI (i3))]]⟩
 (.need true
 (.ret ⟨(.panic (.iface y_parsecore_failure (.agg []))), .none, [[(.slice 4 (l1) .no), (vI (i)), (vI (i1)), (vI (i2)), (vI (i3))]]⟩))))))))) := by kernel_rfl
@[irreducible] noncomputable def X_ppairty (l : List (List AV)) (z : Int) (d : Int) : KT := kt5 f_parsecore_Reader_pairty [AV.ptr 0 0] [[AV.slice 4 l Own.no, vI z, vI 0, vI 0, vI d]]
theorem X_ppairty_eq (l : List (List AV)) (z : Int) (d : Int) : kt5 f_parsecore_Reader_pairty [AV.ptr 0 0] [[AV.slice 4 l Own.no, vI z, vI 0, vI 0, vI d]] =
 (.alt
 (.exI fun i =>
 (.exS fun s =>
 (.exR fun l1 =>
 (.exR fun l2 =>
 (.exR fun l3 =>
 (.exI fun i1 =>
 (.exI fun i2 =>
 (.exI fun i3 =>
 (.exI fun i4 =>
 (.call f_parsecore_Reader_aty [(.ptr 0 0)] .none [[(.slice 4 (l) .no), (vI (z)), (vI (0)), (vI (0)), (vI (d))]] ⟨(.ret (.agg [(vI (i)), (vS (s)), (.slice 1 (l1) .no), (.slice 4 (l2) .no)])), .none, [[(.slice 4 (l3) .no), (vI (i1)), (vI (i2)), (vI (i3)), (vI (i4))]]⟩
 (((((((((((X_ppairty l z d).T.I i).S s).R l1).R l2).R l3).I i1).I i2).I i3).I i4).T) /- LOOP f_parsecore_Reader_pairty block 0 at ⟨tm2 14 [(0, (.ptr 0 0)), (2, (.lp 2 0 0)), (3, (.lp 3 0 0))], lm2 14 [(2, (0, [(vI (0)), (vS ((⟨#[]⟩ : ByteArray))), (.slice 0 [] .full), (.slice 0 [] .full)])), (3, (0, [(vI (i)), (vS (s)), (.slice 1 (l1) .no), (.slice 4 (l2) .no)]))], ⟨[[(.slice 4 (l3) .no), (vI (i1)), (vI (i2)), (vI (i3)), (vI (i4))]], [], .none, 1⟩⟩ -/))))))))))
 (.exR fun l1 =>
 (.exI fun i =>
 (.exI fun i1 =>
 (.exI fun i2 =>
 (.exI fun i3 =>
 (.call f_parsecore_Reader_aty [(.ptr 0 0)] .none [[(.slice 4 (l) .no), (vI (z)), (vI (0)), (vI (0)), (vI (d))]] ⟨(.panic (.iface y_parsecore_failure (.agg []))), .none, [[(.slice 4 (l1) .no), (vI (i)), (vI (i1)), (vI (i2)), (vI (i3))]]⟩
 (.need true
 (.ret ⟨(.panic (.iface y_parsecore_failure (.agg []))), .none, [[(.slice 4 (l1) .no), (vI (i)), (vI (i1)), (vI (i2)), (vI (i3))]]⟩))))))))) := by kernel_rfl
-- LOOP ((((((((((X_ppairty l z d).T.I i).S s).R l1).R l2).R l3).I i1).I i2).I i3).I i4).T
@[irreducible] noncomputable def X_paty (l : List (List AV)) (z : Int) (d : Int) : KT := kt5 f_parsecore_Reader_aty [AV.ptr 0 0] [[AV.slice 4 l Own.no, vI z, vI 0, vI 0, vI d]]
theorem X_paty_eq (l : List (List AV)) (z : Int) (d : Int) : kt5 f_parsecore_Reader_aty [AV.ptr 0 0] [[AV.slice 4 l Own.no, vI z, vI 0, vI 0, vI d]] =
 ((X_paty l z d)) /- LOOP f_parsecore_Reader_aty block 0 at ⟨tm2 35 [(0, (.ptr 0 0)), (2, (.lp 2 0 0)), (6, (.slice 1 [[(vS ((⟨#[105, 110, 116]⟩ : ByteArray)))], [(vS ((⟨#[98, 111, 111, 108]⟩ : ByteArray)))], [(vS ((⟨#[117, 110, 105, 116]⟩ : ByteArray)))]] .full)), (7, (vI ((↑[[normS Pg y_string (AV.val (Value.string (⟨#[105, 110, 116]⟩ : ByteArray))).dis], [normS Pg y_string (AV.val (Value.string (⟨#[98, 111, 111, 108]⟩ : ByteArray))).dis], [normS Pg y_string (AV.val (Value.string (⟨#[117, 110, 105, 116]⟩ : ByteArray))).dis]].length : Int)))), (8, (vI (0)))], lm2 35 [(2, (0, [(vI (0)), (vS ((⟨#[]⟩ : ByteArray))), (.slice 0 [] .full), (.slice 0 [] .full)]))], ⟨[[(.slice 4 (l) .no), (vI (z)), (vI (0)), (vI (0)), (vI (d))]], [], .none, 1⟩⟩ -/ := by kernel_rfl
-- LOOP (X_paty l z d)
@[irreducible] noncomputable def X_pPath (l : List (List AV)) (z : Int) (d : Int) (b : Bool) : KT := kt5 f_parsecore_Reader_Path [AV.ptr 0 0, vB b] [[AV.slice 4 l Own.no, vI z, vI 0, vI 0, vI d]]
theorem X_pPath_eq (l : List (List AV)) (z : Int) (d : Int) (b : Bool) : kt5 f_parsecore_Reader_Path [AV.ptr 0 0, vB b] [[AV.slice 4 l Own.no, vI z, vI 0, vI 0, vI d]] =
 (.stage
 (.branch (false)
 (.branch (!false)
 (.branch (decide (d > 0))
 (.out (.need (lowss 1 (l))
 (.need true
 (.ret ⟨(.panic (.iface y_parsecore_failure (.agg []))), .none, [[(.slice 4 (l) .no), (vI (z)), (vI (0)), (vI (0)), (vI (d))]]⟩))))
 (.out (.need (lowss 1 [])
 (.need (lowss 1 (l))
 (.need true
 (.ret ⟨(.ret (.slice 1 [] .no)), .none, [[(.slice 4 (l) .no), (vI (z)), (vI (0)), (vI (0)), (vI (d))]]⟩))))))
 (.out (.need (lowss 1 [])
 (.need (lowss 1 (l))
 (.need true
 (.ret ⟨(.ret (.slice 1 [] .no)), .none, [[(.slice 4 (l) .no), (vI (z)), (vI (0)), (vI (0)), (vI (d))]]⟩))))))
 (.branch (0 != 0)
 (.branch (!false)
 (.branch (decide (d > 0))
 (.out (.need (lowss 1 (l))
 (.need true
 (.ret ⟨(.panic (.iface y_parsecore_failure (.agg []))), .none, [[(.slice 4 (l) .no), (vI (z)), (vI (0)), (vI (0)), (vI (d))]]⟩))))
 (.out (.need (lowss 1 [])
 (.need (lowss 1 (l))
 (.need true
 (.ret ⟨(.ret (.slice 1 [] .no)), .none, [[(.slice 4 (l) .no), (vI (z)), (vI (0)), (vI (0)), (vI (d))]]⟩))))))
 (.out (.need (lowss 1 [])
 (.need (lowss 1 (l))
 (.need true
 (.ret ⟨(.ret (.slice 1 [] .no)), .none, [[(.slice 4 (l) .no), (vI (z)), (vI (0)), (vI (0)), (vI (d))]]⟩))))))
 (.done ⟨tm2 37 [(1, (.func (.func f_parsecore_Reader_Path_1) [] [(.ref [(vB (b))])])), (2, (.ref [(.ptr 0 0)])), (4, (.ptr 1 0))], lm2 37 [], ⟨[[(.slice 4 (l) .no), (vI (z)), (vI (0)), (vI (0)), (vI (d))], [(.slice 0 [] .full)]], [], .none, 1⟩⟩)))
 ((X_pPath l z d b).K)) := by kernel_rfl
theorem X_pPaths1_eq (l : List (List AV)) (z : Int) (d : Int) (b : Bool) : (X_pPath l z d b).K ⟨tm2 37 [(1, (.func (.func f_parsecore_Reader_Path_1) [] [(.ref [(vB (b))])])), (2, (.ref [(.ptr 0 0)])), (4, (.ptr 1 0))], lm2 37 [], ⟨[[(.slice 4 (l) .no), (vI (z)), (vI (0)), (vI (0)), (vI (d))], [(.slice 0 [] .full)]], [], .none, 1⟩⟩ =
 (.alt
 (.exR fun l1 =>
 (.exB fun b1 =>
 (.exR fun l2 =>
 (.exI fun i =>
 (.exI fun i1 =>
 (.exI fun i2 =>
 (.exI fun i3 =>
 (.exR fun l3 =>
 (.call f_parsecore_Reader_path [(.ptr 0 0), (vB (b)), (vB (!b))] .none [[(.slice 4 (l) .no), (vI (z)), (vI (0)), (vI (0)), (vI (IntKind.i64.wrap (d + 1)))], [(.slice 0 [] .full)]] ⟨(.ret (.tuple [(.slice 1 (l1) .no), (vB (b1))])), .none, [[(.slice 4 (l2) .no), (vI (i)), (vI (i1)), (vI (i2)), (vI (i3))], [(.slice 0 (l3) .full)]]⟩
 (.need true
 (.branch (true)
 (.need (lowss 1 (l1))
 (.need (lowss 1 (l2))
 (.need true
 (.ret ⟨(.ret (.slice 1 (l1) .no)), .none, [[(.slice 4 (l2) .no), (vI (i)), (vI (i1)), (vI (i2)), (vI (IntKind.i64.wrap (i3 - 1)))]]⟩))))
 (.branch (false)
 (.branch (decide (IntKind.i64.wrap (i3 - 1) > 0))
 (.need (lowss 1 (l2))
 (.need true
 (.ret ⟨(.panic (.iface y_parsecore_failure (.agg []))), .none, [[(.slice 4 (l2) .no), (vI (i)), (vI (i1)), (vI (i2)), (vI (IntKind.i64.wrap (i3 - 1)))]]⟩)))
 (.need (lowss 1 [])
 (.need (lowss 1 (l2))
 (.need true
 (.ret ⟨(.ret (.slice 1 [] .no)), .none, [[(.slice 4 (l2) .no), (vI (i)), (vI (i1)), (vI (i2)), (vI (IntKind.i64.wrap (i3 - 1)))]]⟩)))))
 .fail))))))))))))
 (.exR fun l1 =>
 (.exI fun i =>
 (.exI fun i1 =>
 (.exI fun i2 =>
 (.exI fun i3 =>
 (.exR fun l2 =>
 (.call f_parsecore_Reader_path [(.ptr 0 0), (vB (b)), (vB (!b))] .none [[(.slice 4 (l) .no), (vI (z)), (vI (0)), (vI (0)), (vI (IntKind.i64.wrap (d + 1)))], [(.slice 0 [] .full)]] ⟨(.panic (.iface y_parsecore_failure (.agg []))), .none, [[(.slice 4 (l1) .no), (vI (i)), (vI (i1)), (vI (i2)), (vI (i3))], [(.slice 0 (l2) .full)]]⟩
 (.need true
 (.branch (false)
 (.need (lowss 1 (l2))
 (.need (lowss 1 (l1))
 (.need true
 (.ret ⟨(.ret (List.rec ((fun _ => AV.slice ((fun x => x.size) Pg.types[y_string]) [] Own.no) ()) (fun head tail tail_ih => (fun head tail => (fun r l => AV.slice 0 (r :: l) Own.full) head tail) head tail) l2)), .none, [[(.slice 4 (l1) .no), (vI (i)), (vI (i1)), (vI (i2)), (vI (IntKind.i64.wrap (i3 - 1)))]]⟩))))
 (.branch (true)
 (.branch (decide (IntKind.i64.wrap (i3 - 1) > 0))
 (.need (lowss 1 (l1))
 (.need true
 (.ret ⟨(.panic (.iface y_parsecore_failure (.agg []))), .none, [[(.slice 4 (l1) .no), (vI (i)), (vI (i1)), (vI (i2)), (vI (IntKind.i64.wrap (i3 - 1)))]]⟩)))
 (.need (lowss 1 [])
 (.need (lowss 1 (l1))
 (.need true
 (.ret ⟨(.ret (.slice 1 [] .no)), .none, [[(.slice 4 (l1) .no), (vI (i)), (vI (i1)), (vI (i2)), (vI (IntKind.i64.wrap (i3 - 1)))]]⟩)))))
 (.need (lowss 1 (l1))
 (.need true
 (.ret ⟨(.panic (.iface y_parsecore_failure (.agg []))), .none, [[(.slice 4 (l1) .no), (vI (i)), (vI (i1)), (vI (i2)), (vI (IntKind.i64.wrap (i3 - 1)))]]⟩)))))))))))))) := by kernel_rfl
@[irreducible] noncomputable def X_ppath (l : List (List AV)) (z : Int) (d : Int) (b : Bool) (b1 : Bool) : KT := kt5 f_parsecore_Reader_path [AV.ptr 0 0, vB b, vB b1] [[AV.slice 4 l Own.no, vI z, vI 0, vI 0, vI d]]
theorem X_ppath_eq (l : List (List AV)) (z : Int) (d : Int) (b : Bool) (b1 : Bool) : kt5 f_parsecore_Reader_path [AV.ptr 0 0, vB b, vB b1] [[AV.slice 4 l Own.no, vI z, vI 0, vI 0, vI d]] =
 (.branch ((↑l.length : Int) == 0)
 (.need true
 ((X_ppath l z d b b1).T.T) /- LOOP f_parsecore_Reader_path block 0 at ⟨tm2 66 [(0, (.ptr 0 0)), (1, (vB (b))), (2, (vB (b1))), (8, (vI (z))), (9, (.slice 0 [] .full))], lm2 66 [], ⟨[[(.slice 4 (l) .no), (vI (z)), (vI (0)), (vI (0)), (vI (d))]], [], .none, 1⟩⟩ -/)
 (.exI fun i =>
 (.exS fun s =>
 (.exI fun i1 =>
 (.exI fun i2 =>
 (.row (l) (0) [(vI (i)), (vS (s)), (vI (i1)), (vI (i2))]
 (.need true
 ((((((X_ppath l z d b b1).F.I i).S s).I i1).I i2).T.T) /- LOOP f_parsecore_Reader_path block 0 at ⟨tm2 66 [(0, (.ptr 0 0)), (1, (vB (b))), (2, (vB (b1))), (8, (vI (i2))), (9, (.slice 0 [] .full))], lm2 66 [], ⟨[[(.slice 4 (l) .no), (vI (z)), (vI (0)), (vI (0)), (vI (d))]], [], .none, 1⟩⟩ -/))))))) := by kernel_rfl
-- LOOP (((((X_ppath l z d b b1).F.I i).S s).I i1).I i2).T.T
-- LOOP (X_ppath l z d b b1).T.T
end Go.Proofs
end

section
/- TREES, printed by kt.py out of y2.txt -/
open Go Go.Eng
namespace Go.Proofs
set_option linter.unusedVariables false
set_option maxRecDepth 100000
@[irreducible] noncomputable def Y_ppairty (l : List (List AV)) (z d : Int) (i : Int) (s : ByteArray) (l1 l2 l3 : List (List AV)) (i1 i2 i3 i4 : Int) : KT := ((((((((((kt5 f_parsecore_Reader_pairty [.ptr 0 0] [[.slice 4 l .no, vI z, vI 0, vI 0, vI d]]).T.I i).S s).R l1).R l2).R l3).I i1).I i2).I i3).I i4).T
@[irreducible] noncomputable def Y_paty (l : List (List AV)) (z d : Int) : KT := kt5 f_parsecore_Reader_aty [.ptr 0 0] [[.slice 4 l .no, vI z, vI 0, vI 0, vI d]]
@[irreducible] noncomputable def Y_ppath1 (l : List (List AV)) (z d : Int) (b b1 : Bool) : KT := (kt5 f_parsecore_Reader_path [.ptr 0 0, vB b, vB b1] [[.slice 4 l .no, vI z, vI 0, vI 0, vI d]]).T.T
@[irreducible] noncomputable def Y_ppath2 (l : List (List AV)) (z d : Int) (b b1 : Bool) (i : Int) (s : ByteArray) (i1 i2 : Int) : KT := (((((kt5 f_parsecore_Reader_path [.ptr 0 0, vB b, vB b1] [[.slice 4 l .no, vI z, vI 0, vI 0, vI d]]).F.I i).S s).I i1).I i2).T.T
theorem X_ppairtyA_eq (l : List (List AV)) (z : Int) (d : Int) (i : Int) (s : ByteArray) (l1 : List (List AV)) (l2 : List (List AV)) (l3 : List (List AV)) (i1 : Int) (i2 : Int) (i3 : Int) (i4 : Int) (k : Int) (n : ByteArray) (p : List (List AV)) (q : List (List AV)) (m : List (List AV)) (z' : Int) (e : Int) (a : Int) (d' : Int) : KT.round Pg cfg0 rs0 kc5 (Y_ppairty l z d i s l1 l2 l3 i1 i2 i3 i4) { tmps := tm2 14 [(0, AV.ptr 0 0), (2, AV.lp 2 0 0), (3, AV.lp 3 0 0)], lh := lm2 14 [(2, 0, [vI 0, vS (⟨#[]⟩ : ByteArray), AV.slice 0 [] Own.full, AV.slice 0 [] Own.full]), (3, 0, [vI k, vS n, AV.slice 1 p Own.no, AV.slice 4 q Own.no])], g := { H := [[AV.slice 4 m Own.no, vI z', vI e, vI a, vI d']], defers := [], rm := RM.none, base := 1 } } =
 (.exB fun b =>
 (.exR fun l4 =>
 (.exI fun i5 =>
 (.exI fun i6 =>
 (.exI fun i7 =>
 (.exI fun i8 =>
 (.call f_parsecore_Reader_Take [(.ptr 0 0), (vS ((⟨#[42]⟩ : ByteArray)))] .none [[(.slice 4 (m) .no), (vI (z')), (vI (e)), (vI (a)), (vI (d'))]] ⟨(.ret (vB (b))), .none, [[(.slice 4 (l4) .no), (vI (i5)), (vI (i6)), (vI (i7)), (vI (i8))]]⟩
 (.branch (b)
 (.alt
 (.exI fun i9 =>
 (.exS fun s1 =>
 (.exR fun l5 =>
 (.exR fun l6 =>
 (.exR fun l7 =>
 (.exI fun i10 =>
 (.exI fun i11 =>
 (.exI fun i12 =>
 (.exI fun i13 =>
 (.call f_parsecore_Reader_aty [(.ptr 0 0)] .none [[(.slice 4 (l4) .no), (vI (i5)), (vI (i6)), (vI (i7)), (vI (i8))]] ⟨(.ret (.agg [(vI (i9)), (vS (s1)), (.slice 1 (l5) .no), (.slice 4 (l6) .no)])), .none, [[(.slice 4 (l7) .no), (vI (i10)), (vI (i11)), (vI (i12)), (vI (i13))]]⟩
 (.done ⟨tm2 14 [(0, (.ptr 0 0)), (2, (.lp 2 0 0)), (3, (.lp 3 0 0))], lm2 14 [(2, (0, [(vI (0)), (vS ((⟨#[]⟩ : ByteArray))), (.slice 0 [] .full), (.slice 0 [] .full)])), (3, (0, [(vI (4)), (vS ((⟨#[]⟩ : ByteArray))), (.slice 0 [] .full), (.slice 4 [[(vI (k)), (vS (n)), (.slice 1 (p) .no), (.slice 4 (q) .no)], [(vI (i9)), (vS (s1)), (.slice 1 (l5) .no), (.slice 4 (l6) .no)]] .full)]))], ⟨[[(.slice 4 (l7) .no), (vI (i10)), (vI (i11)), (vI (i12)), (vI (i13))]], [], .none, 1⟩⟩)))))))))))
 (.exR fun l5 =>
 (.exI fun i9 =>
 (.exI fun i10 =>
 (.exI fun i11 =>
 (.exI fun i12 =>
 (.call f_parsecore_Reader_aty [(.ptr 0 0)] .none [[(.slice 4 (l4) .no), (vI (i5)), (vI (i6)), (vI (i7)), (vI (i8))]] ⟨(.panic (.iface y_parsecore_failure (.agg []))), .none, [[(.slice 4 (l5) .no), (vI (i9)), (vI (i10)), (vI (i11)), (vI (i12))]]⟩
 (.out (.need true
 (.ret ⟨(.panic (.iface y_parsecore_failure (.agg []))), .none, [[(.slice 4 (l5) .no), (vI (i9)), (vI (i10)), (vI (i11)), (vI (i12))]]⟩))))))))))
 (.out (.need true
 (.ret ⟨(.ret (.agg [(vI (k)), (vS (n)), (.slice 1 (p) .no), (.slice 4 (q) .no)])), .none, [[(.slice 4 (l4) .no), (vI (i5)), (vI (i6)), (vI (i7)), (vI (i8))]]⟩))))))))))) := by kernel_rfl
theorem X_ppairtyB_eq (l : List (List AV)) (z : Int) (d : Int) (i : Int) (s : ByteArray) (l1 : List (List AV)) (l2 : List (List AV)) (l3 : List (List AV)) (i1 : Int) (i2 : Int) (i3 : Int) (i4 : Int) (r1 : List AV) (r2 : List AV) (m : List (List AV)) (z' : Int) (e : Int) (a : Int) (d' : Int) : KT.round Pg cfg0 rs0 kc5 (Y_ppairty l z d i s l1 l2 l3 i1 i2 i3 i4) { tmps := tm2 14 [(0, AV.ptr 0 0), (2, AV.lp 2 0 0), (3, AV.lp 3 0 0)], lh := lm2 14 [(2, 0, [vI 0, vS (⟨#[]⟩ : ByteArray), AV.slice 0 [] Own.full, AV.slice 0 [] Own.full]), (3, 0, [vI 4, vS (⟨#[]⟩ : ByteArray), AV.slice 0 [] Own.full, AV.slice 4 [r1, r2] Own.full])], g := { H := [[AV.slice 4 m Own.no, vI z', vI e, vI a, vI d']], defers := [], rm := RM.none, base := 1 } } =
 (.exB fun b =>
 (.exR fun l4 =>
 (.exI fun i5 =>
 (.exI fun i6 =>
 (.exI fun i7 =>
 (.exI fun i8 =>
 (.call f_parsecore_Reader_Take [(.ptr 0 0), (vS ((⟨#[42]⟩ : ByteArray)))] .none [[(.slice 4 (m) .no), (vI (z')), (vI (e)), (vI (a)), (vI (d'))]] ⟨(.ret (vB (b))), .none, [[(.slice 4 (l4) .no), (vI (i5)), (vI (i6)), (vI (i7)), (vI (i8))]]⟩
 (.branch (b)
 (.alt
 (.exI fun i9 =>
 (.exS fun s1 =>
 (.exR fun l5 =>
 (.exR fun l6 =>
 (.exR fun l7 =>
 (.exI fun i10 =>
 (.exI fun i11 =>
 (.exI fun i12 =>
 (.exI fun i13 =>
 (.call f_parsecore_Reader_aty [(.ptr 0 0)] .none [[(.slice 4 (l4) .no), (vI (i5)), (vI (i6)), (vI (i7)), (vI (i8))]] ⟨(.ret (.agg [(vI (i9)), (vS (s1)), (.slice 1 (l5) .no), (.slice 4 (l6) .no)])), .none, [[(.slice 4 (l7) .no), (vI (i10)), (vI (i11)), (vI (i12)), (vI (i13))]]⟩
 (.done ⟨tm2 14 [(0, (.ptr 0 0)), (2, (.lp 2 0 0)), (3, (.lp 3 0 0))], lm2 14 [(2, (0, [(vI (0)), (vS ((⟨#[]⟩ : ByteArray))), (.slice 0 [] .full), (.slice 0 [] .full)])), (3, (0, [(vI (4)), (vS ((⟨#[]⟩ : ByteArray))), (.slice 0 [] .full), (.slice 4 [[(vI (4)), (vS ((⟨#[]⟩ : ByteArray))), (.slice 1 [] .no), (.slice 4 [(r1), (r2)] .no)], [(vI (i9)), (vS (s1)), (.slice 1 (l5) .no), (.slice 4 (l6) .no)]] .full)]))], ⟨[[(.slice 4 (l7) .no), (vI (i10)), (vI (i11)), (vI (i12)), (vI (i13))]], [], .none, 1⟩⟩)))))))))))
 (.exR fun l5 =>
 (.exI fun i9 =>
 (.exI fun i10 =>
 (.exI fun i11 =>
 (.exI fun i12 =>
 (.call f_parsecore_Reader_aty [(.ptr 0 0)] .none [[(.slice 4 (l4) .no), (vI (i5)), (vI (i6)), (vI (i7)), (vI (i8))]] ⟨(.panic (.iface y_parsecore_failure (.agg []))), .none, [[(.slice 4 (l5) .no), (vI (i9)), (vI (i10)), (vI (i11)), (vI (i12))]]⟩
 (.out (.need true
 (.ret ⟨(.panic (.iface y_parsecore_failure (.agg []))), .none, [[(.slice 4 (l5) .no), (vI (i9)), (vI (i10)), (vI (i11)), (vI (i12))]]⟩))))))))))
 (.out (.need true
 (.ret ⟨(.ret (.agg [(vI (4)), (vS ((⟨#[]⟩ : ByteArray))), (.slice 1 [] .no), (.slice 4 [(r1), (r2)] .no)])), .none, [[(.slice 4 (l4) .no), (vI (i5)), (vI (i6)), (vI (i7)), (vI (i8))]]⟩))))))))))) := by kernel_rfl
theorem X_patyR_eq (l : List (List AV)) (z : Int) (d : Int) (i : Nat) (m : List (List AV)) (z' : Int) (e : Int) (a : Int) (d' : Int) : KT.round Pg cfg0 rs0 kc5 (Y_paty l z d) { tmps := tm2 35 [(0, AV.ptr 0 0), (2, AV.lp 2 0 0), (6, AV.slice 1 [[vS (⟨#[105, 110, 116]⟩ : ByteArray)], [vS (⟨#[98, 111, 111, 108]⟩ : ByteArray)], [vS (⟨#[117, 110, 105, 116]⟩ : ByteArray)]] Own.full), (7, vI 3), (8, vI (↑i : Int))], lh := lm2 35 [(2, 0, [vI 0, vS (⟨#[]⟩ : ByteArray), AV.slice 0 [] Own.full, AV.slice 0 [] Own.full])], g := { H := [[AV.slice 4 m Own.no, vI z', vI e, vI a, vI d']], defers := [], rm := RM.none, base := 1 } } =
 (.branch (decide ((↑i : Int) < 3))
 (.exS fun s =>
 (.row [[(vS ((⟨#[105, 110, 116]⟩ : ByteArray)))], [(vS ((⟨#[98, 111, 111, 108]⟩ : ByteArray)))], [(vS ((⟨#[117, 110, 105, 116]⟩ : ByteArray)))]] ((↑i : Int)) [(vS (s))]
 (.exB fun b =>
 (.exR fun l1 =>
 (.exI fun i1 =>
 (.exI fun i2 =>
 (.exI fun i3 =>
 (.exI fun i4 =>
 (.call f_parsecore_Reader_Take [(.ptr 0 0), (vS (s))] .none [[(.slice 4 (m) .no), (vI (z')), (vI (e)), (vI (a)), (vI (d'))]] ⟨(.ret (vB (b))), .none, [[(.slice 4 (l1) .no), (vI (i1)), (vI (i2)), (vI (i3)), (vI (i4))]]⟩
 (.branch (b)
 (.out (.need true
 (.ret ⟨(.ret (.agg [(vI (2)), (vS ((⟨#[]⟩ : ByteArray))), (.slice 1 [[(vS (s))]] .no), (.slice 4 [] .no)])), .none, [[(.slice 4 (l1) .no), (vI (i1)), (vI (i2)), (vI (i3)), (vI (i4))]]⟩)))
 (.done ⟨tm2 35 [(0, (.ptr 0 0)), (2, (.lp 2 0 0)), (6, (.slice 1 [[(vS ((⟨#[105, 110, 116]⟩ : ByteArray)))], [(vS ((⟨#[98, 111, 111, 108]⟩ : ByteArray)))], [(vS ((⟨#[117, 110, 105, 116]⟩ : ByteArray)))]] .full)), (7, (vI (3))), (8, (vI (IntKind.i64.wrap ((↑i : Int) + 1))))], lm2 35 [(2, (0, [(vI (0)), (vS ((⟨#[]⟩ : ByteArray))), (.slice 0 [] .full), (.slice 0 [] .full)]))], ⟨[[(.slice 4 (l1) .no), (vI (i1)), (vI (i2)), (vI (i3)), (vI (i4))]], [], .none, 1⟩⟩)))))))))))
 (.out (.exB fun b =>
 (.call f_parsecore_Reader_of [(.ptr 0 0), (vI (5))] .none [[(.slice 4 (m) .no), (vI (z')), (vI (e)), (vI (a)), (vI (d'))]] ⟨(.ret (vB (b))), .none, [[(.slice 4 (m) .no), (vI (z')), (vI (e)), (vI (a)), (vI (d'))]]⟩
 (.branch (b)
 (.alt
 (.exS fun s =>
 (.exR fun l1 =>
 (.exI fun i1 =>
 (.exI fun i2 =>
 (.exI fun i3 =>
 (.exI fun i4 =>
 (.call f_parsecore_Reader_taken [(.ptr 0 0), (vI (5))] .none [[(.slice 4 (m) .no), (vI (z')), (vI (e)), (vI (a)), (vI (d'))]] ⟨(.ret (vS (s))), .none, [[(.slice 4 (l1) .no), (vI (i1)), (vI (i2)), (vI (i3)), (vI (i4))]]⟩
 (.need (decide ((0 : Int) ≤ 1 ∧ 1 ≤ (↑s.size : Int) ∧ (↑s.size : Int) ≤ (↑s.size : Int)))
 (.need true
 (.ret ⟨(.ret (.agg [(vI (1)), (vS (s.extract (Int.toNat 1) (↑s.size : Int).toNat)), (.slice 1 [] .no), (.slice 4 [] .no)])), .none, [[(.slice 4 (l1) .no), (vI (i1)), (vI (i2)), (vI (i3)), (vI (i4))]]⟩))))))))))
 (.exR fun l1 =>
 (.exI fun i1 =>
 (.exI fun i2 =>
 (.exI fun i3 =>
 (.exI fun i4 =>
 (.call f_parsecore_Reader_taken [(.ptr 0 0), (vI (5))] .none [[(.slice 4 (m) .no), (vI (z')), (vI (e)), (vI (a)), (vI (d'))]] ⟨(.panic (.iface y_parsecore_failure (.agg []))), .none, [[(.slice 4 (l1) .no), (vI (i1)), (vI (i2)), (vI (i3)), (vI (i4))]]⟩
 (.need true
 (.ret ⟨(.panic (.iface y_parsecore_failure (.agg []))), .none, [[(.slice 4 (l1) .no), (vI (i1)), (vI (i2)), (vI (i3)), (vI (i4))]]⟩)))))))))
 (.exB fun b1 =>
 (.exR fun l1 =>
 (.exI fun i1 =>
 (.exI fun i2 =>
 (.exI fun i3 =>
 (.exI fun i4 =>
 (.call f_parsecore_Reader_Take [(.ptr 0 0), (vS ((⟨#[40]⟩ : ByteArray)))] .none [[(.slice 4 (m) .no), (vI (z')), (vI (e)), (vI (a)), (vI (d'))]] ⟨(.ret (vB (b1))), .none, [[(.slice 4 (l1) .no), (vI (i1)), (vI (i2)), (vI (i3)), (vI (i4))]]⟩
 (.branch (b1)
 (.alt
 (.exI fun i5 =>
 (.exS fun s =>
 (.exR fun l2 =>
 (.exR fun l3 =>
 (.exR fun l4 =>
 (.exI fun i6 =>
 (.exI fun i7 =>
 (.exI fun i8 =>
 (.exI fun i9 =>
 (.call f_parsecore_Reader_Ty [(.ptr 0 0)] .none [[(.slice 4 (l1) .no), (vI (i1)), (vI (i2)), (vI (i3)), (vI (i4))]] ⟨(.ret (.agg [(vI (i5)), (vS (s)), (.slice 1 (l2) .no), (.slice 4 (l3) .no)])), .none, [[(.slice 4 (l4) .no), (vI (i6)), (vI (i7)), (vI (i8)), (vI (i9))]]⟩
 (.alt
 (.exR fun l5 =>
 (.exI fun i10 =>
 (.exI fun i11 =>
 (.exI fun i12 =>
 (.exI fun i13 =>
 (.call f_parsecore_Reader_Need [(.ptr 0 0), (vS ((⟨#[41]⟩ : ByteArray)))] .none [[(.slice 4 (l4) .no), (vI (i6)), (vI (i7)), (vI (i8)), (vI (i9))]] ⟨(.ret (.tuple [])), .none, [[(.slice 4 (l5) .no), (vI (i10)), (vI (i11)), (vI (i12)), (vI (i13))]]⟩
 (.need true
 (.ret ⟨(.ret (.agg [(vI (i5)), (vS (s)), (.slice 1 (l2) .no), (.slice 4 (l3) .no)])), .none, [[(.slice 4 (l5) .no), (vI (i10)), (vI (i11)), (vI (i12)), (vI (i13))]]⟩))))))))
 (.exR fun l5 =>
 (.exI fun i10 =>
 (.exI fun i11 =>
 (.exI fun i12 =>
 (.exI fun i13 =>
 (.call f_parsecore_Reader_Need [(.ptr 0 0), (vS ((⟨#[41]⟩ : ByteArray)))] .none [[(.slice 4 (l4) .no), (vI (i6)), (vI (i7)), (vI (i8)), (vI (i9))]] ⟨(.panic (.iface y_parsecore_failure (.agg []))), .none, [[(.slice 4 (l5) .no), (vI (i10)), (vI (i11)), (vI (i12)), (vI (i13))]]⟩
 (.need true
 (.ret ⟨(.panic (.iface y_parsecore_failure (.agg []))), .none, [[(.slice 4 (l5) .no), (vI (i10)), (vI (i11)), (vI (i12)), (vI (i13))]]⟩)))))))))))))))))))
 (.exR fun l2 =>
 (.exI fun i5 =>
 (.exI fun i6 =>
 (.exI fun i7 =>
 (.exI fun i8 =>
 (.call f_parsecore_Reader_Ty [(.ptr 0 0)] .none [[(.slice 4 (l1) .no), (vI (i1)), (vI (i2)), (vI (i3)), (vI (i4))]] ⟨(.panic (.iface y_parsecore_failure (.agg []))), .none, [[(.slice 4 (l2) .no), (vI (i5)), (vI (i6)), (vI (i7)), (vI (i8))]]⟩
 (.need true
 (.ret ⟨(.panic (.iface y_parsecore_failure (.agg []))), .none, [[(.slice 4 (l2) .no), (vI (i5)), (vI (i6)), (vI (i7)), (vI (i8))]]⟩)))))))))
 (.alt
 (.exR fun l2 =>
 (.exR fun l3 =>
 (.exI fun i5 =>
 (.exI fun i6 =>
 (.exI fun i7 =>
 (.exI fun i8 =>
 (.call f_parsecore_Reader_Path [(.ptr 0 0), (vB true)] .none [[(.slice 4 (l1) .no), (vI (i1)), (vI (i2)), (vI (i3)), (vI (i4))]] ⟨(.ret (.slice 1 (l2) .no)), .none, [[(.slice 4 (l3) .no), (vI (i5)), (vI (i6)), (vI (i7)), (vI (i8))]]⟩
 (.need true
 (.ret ⟨(.ret (.agg [(vI (2)), (vS ((⟨#[]⟩ : ByteArray))), (.slice 1 (l2) .no), (.slice 4 [] .no)])), .none, [[(.slice 4 (l3) .no), (vI (i5)), (vI (i6)), (vI (i7)), (vI (i8))]]⟩)))))))))
 (.exR fun l2 =>
 (.exI fun i5 =>
 (.exI fun i6 =>
 (.exI fun i7 =>
 (.exI fun i8 =>
 (.call f_parsecore_Reader_Path [(.ptr 0 0), (vB true)] .none [[(.slice 4 (l1) .no), (vI (i1)), (vI (i2)), (vI (i3)), (vI (i4))]] ⟨(.panic (.iface y_parsecore_failure (.agg []))), .none, [[(.slice 4 (l2) .no), (vI (i5)), (vI (i6)), (vI (i7)), (vI (i8))]]⟩
 (.need true
 (.ret ⟨(.panic (.iface y_parsecore_failure (.agg []))), .none, [[(.slice 4 (l2) .no), (vI (i5)), (vI (i6)), (vI (i7)), (vI (i8))]]⟩)))))))))))))))))))))) := by kernel_rfl
@[irreducible] noncomputable def X_ppath1A (l : List (List AV)) (z : Int) (d : Int) (b : Bool) (b1 : Bool) (m : List (List AV)) (a0 : Int) (z' : Int) (e : Int) (a : Int) (d' : Int) : KT := KT.round Pg cfg0 rs0 kc5 (Y_ppath1 l z d b b1) { tmps := tm2 66 [(0, AV.ptr 0 0), (1, vB b), (2, vB b1), (8, vI a0), (9, AV.slice 0 [] Own.full)], lh := lm2 66 [], g := { H := [[AV.slice 4 m Own.no, vI z', vI e, vI a, vI d']], defers := [], rm := RM.none, base := 1 } }
theorem X_ppath1A_eq (l : List (List AV)) (z : Int) (d : Int) (b : Bool) (b1 : Bool) (m : List (List AV)) (a0 : Int) (z' : Int) (e : Int) (a : Int) (d' : Int) : KT.round Pg cfg0 rs0 kc5 (Y_ppath1 l z d b b1) { tmps := tm2 66 [(0, AV.ptr 0 0), (1, vB b), (2, vB b1), (8, vI a0), (9, AV.slice 0 [] Own.full)], lh := lm2 66 [], g := { H := [[AV.slice 4 m Own.no, vI z', vI e, vI a, vI d']], defers := [], rm := RM.none, base := 1 } } =
 (.exB fun b2 =>
 (.call f_parsecore_Reader_of [(.ptr 0 0), (vI (1))] .none [[(.slice 4 (m) .no), (vI (z')), (vI (e)), (vI (a)), (vI (d'))]] ⟨(.ret (vB (b2))), .none, [[(.slice 4 (m) .no), (vI (z')), (vI (e)), (vI (a)), (vI (d'))]]⟩
 (.stage
 (.exB fun b3 =>
 (.call f_parsecore_Reader_of [(.ptr 0 0), (vI (2))] .none [[(.slice 4 (m) .no), (vI (z')), (vI (e)), (vI (a)), (vI (d'))]] ⟨(.ret (vB (b3))), .none, [[(.slice 4 (m) .no), (vI (z')), (vI (e)), (vI (a)), (vI (d'))]]⟩
 (.branch (!b3)
 (.branch (b2)
 (.branch (!b)
 (.branch ((↑m.length : Int) == 0)
 (.need true
 (.need true
 (.out (.out (.need true
 (.ret ⟨(.panic (.iface y_parsecore_failure (.agg []))), .none, [[(.slice 4 (m) .no), (vI (z')), (vI (11)), (vI (z')), (vI (d'))]]⟩))))))
 (.exI fun i =>
 (.exS fun s =>
 (.exI fun i1 =>
 (.exI fun i2 =>
 (.row (m) (0) [(vI (i)), (vS (s)), (vI (i1)), (vI (i2))]
 (.need true
 (.need true
 (.out (.out (.need true
 (.ret ⟨(.panic (.iface y_parsecore_failure (.agg []))), .none, [[(.slice 4 (m) .no), (vI (z')), (vI (11)), (vI (i2)), (vI (d'))]]⟩))))))))))))
 (.done ⟨tm2 66 [(0, (.ptr 0 0)), (1, (vB (b))), (2, (vB (b1))), (8, (vI (a0))), (9, (.slice 0 [] .full)), (10, (vB (b2)))], lm2 66 [], ⟨[[(.slice 4 (m) .no), (vI (z')), (vI (e)), (vI (a)), (vI (d'))]], [], .none, 1⟩⟩))
 (.branch ((↑m.length : Int) == 0)
 (.need true
 (.need true
 (.out (.out (.need true
 (.ret ⟨(.panic (.iface y_parsecore_failure (.agg []))), .none, [[(.slice 4 (m) .no), (vI (z')), (vI (11)), (vI (z')), (vI (d'))]]⟩))))))
 (.exI fun i =>
 (.exS fun s =>
 (.exI fun i1 =>
 (.exI fun i2 =>
 (.row (m) (0) [(vI (i)), (vS (s)), (vI (i1)), (vI (i2))]
 (.need true
 (.need true
 (.out (.out (.need true
 (.ret ⟨(.panic (.iface y_parsecore_failure (.agg []))), .none, [[(.slice 4 (m) .no), (vI (z')), (vI (11)), (vI (i2)), (vI (d'))]]⟩)))))))))))))
 (.done ⟨tm2 66 [(0, (.ptr 0 0)), (1, (vB (b))), (2, (vB (b1))), (8, (vI (a0))), (9, (.slice 0 [] .full)), (10, (vB (b2)))], lm2 66 [], ⟨[[(.slice 4 (m) .no), (vI (z')), (vI (e)), (vI (a)), (vI (d'))]], [], .none, 1⟩⟩))))
 (((X_ppath1A l z d b b1 m a0 z' e a d').B b2).T.K)))) := by kernel_rfl
@[irreducible] noncomputable def X_ppath2A (l : List (List AV)) (z : Int) (d : Int) (b : Bool) (b1 : Bool) (i : Int) (s : ByteArray) (i1 : Int) (i2 : Int) (m : List (List AV)) (a0 : Int) (z' : Int) (e : Int) (a : Int) (d' : Int) : KT := KT.round Pg cfg0 rs0 kc5 (Y_ppath2 l z d b b1 i s i1 i2) { tmps := tm2 66 [(0, AV.ptr 0 0), (1, vB b), (2, vB b1), (8, vI a0), (9, AV.slice 0 [] Own.full)], lh := lm2 66 [], g := { H := [[AV.slice 4 m Own.no, vI z', vI e, vI a, vI d']], defers := [], rm := RM.none, base := 1 } }
theorem X_ppath2A_eq (l : List (List AV)) (z : Int) (d : Int) (b : Bool) (b1 : Bool) (i : Int) (s : ByteArray) (i1 : Int) (i2 : Int) (m : List (List AV)) (a0 : Int) (z' : Int) (e : Int) (a : Int) (d' : Int) : KT.round Pg cfg0 rs0 kc5 (Y_ppath2 l z d b b1 i s i1 i2) { tmps := tm2 66 [(0, AV.ptr 0 0), (1, vB b), (2, vB b1), (8, vI a0), (9, AV.slice 0 [] Own.full)], lh := lm2 66 [], g := { H := [[AV.slice 4 m Own.no, vI z', vI e, vI a, vI d']], defers := [], rm := RM.none, base := 1 } } =
 (.exB fun b2 =>
 (.call f_parsecore_Reader_of [(.ptr 0 0), (vI (1))] .none [[(.slice 4 (m) .no), (vI (z')), (vI (e)), (vI (a)), (vI (d'))]] ⟨(.ret (vB (b2))), .none, [[(.slice 4 (m) .no), (vI (z')), (vI (e)), (vI (a)), (vI (d'))]]⟩
 (.stage
 (.exB fun b3 =>
 (.call f_parsecore_Reader_of [(.ptr 0 0), (vI (2))] .none [[(.slice 4 (m) .no), (vI (z')), (vI (e)), (vI (a)), (vI (d'))]] ⟨(.ret (vB (b3))), .none, [[(.slice 4 (m) .no), (vI (z')), (vI (e)), (vI (a)), (vI (d'))]]⟩
 (.branch (!b3)
 (.branch (b2)
 (.branch (!b)
 (.branch ((↑m.length : Int) == 0)
 (.need true
 (.need true
 (.out (.out (.need true
 (.ret ⟨(.panic (.iface y_parsecore_failure (.agg []))), .none, [[(.slice 4 (m) .no), (vI (z')), (vI (11)), (vI (z')), (vI (d'))]]⟩))))))
 (.exI fun i3 =>
 (.exS fun s1 =>
 (.exI fun i4 =>
 (.exI fun i5 =>
 (.row (m) (0) [(vI (i3)), (vS (s1)), (vI (i4)), (vI (i5))]
 (.need true
 (.need true
 (.out (.out (.need true
 (.ret ⟨(.panic (.iface y_parsecore_failure (.agg []))), .none, [[(.slice 4 (m) .no), (vI (z')), (vI (11)), (vI (i5)), (vI (d'))]]⟩))))))))))))
 (.done ⟨tm2 66 [(0, (.ptr 0 0)), (1, (vB (b))), (2, (vB (b1))), (8, (vI (a0))), (9, (.slice 0 [] .full)), (10, (vB (b2)))], lm2 66 [], ⟨[[(.slice 4 (m) .no), (vI (z')), (vI (e)), (vI (a)), (vI (d'))]], [], .none, 1⟩⟩))
 (.branch ((↑m.length : Int) == 0)
 (.need true
 (.need true
 (.out (.out (.need true
 (.ret ⟨(.panic (.iface y_parsecore_failure (.agg []))), .none, [[(.slice 4 (m) .no), (vI (z')), (vI (11)), (vI (z')), (vI (d'))]]⟩))))))
 (.exI fun i3 =>
 (.exS fun s1 =>
 (.exI fun i4 =>
 (.exI fun i5 =>
 (.row (m) (0) [(vI (i3)), (vS (s1)), (vI (i4)), (vI (i5))]
 (.need true
 (.need true
 (.out (.out (.need true
 (.ret ⟨(.panic (.iface y_parsecore_failure (.agg []))), .none, [[(.slice 4 (m) .no), (vI (z')), (vI (11)), (vI (i5)), (vI (d'))]]⟩)))))))))))))
 (.done ⟨tm2 66 [(0, (.ptr 0 0)), (1, (vB (b))), (2, (vB (b1))), (8, (vI (a0))), (9, (.slice 0 [] .full)), (10, (vB (b2)))], lm2 66 [], ⟨[[(.slice 4 (m) .no), (vI (z')), (vI (e)), (vI (a)), (vI (d'))]], [], .none, 1⟩⟩))))
 (((X_ppath2A l z d b b1 i s i1 i2 m a0 z' e a d').B b2).T.K)))) := by kernel_rfl
@[irreducible] noncomputable def X_ppath2As1 (l : List (List AV)) (z : Int) (d : Int) (b : Bool) (b1 : Bool) (i : Int) (s : ByteArray) (i1 : Int) (i2 : Int) (m : List (List AV)) (a0 : Int) (z' : Int) (e : Int) (a : Int) (d' : Int) (b2 : Bool) : KT := ((X_ppath2A l z d b b1 i s i1 i2 m a0 z' e a d').B b2).T.K ⟨tm2 66 [(0, (.ptr 0 0)), (1, (vB (b))), (2, (vB (b1))), (8, (vI (a0))), (9, (.slice 0 [] .full)), (10, (vB (b2)))], lm2 66 [], ⟨[[(.slice 4 (m) .no), (vI (z')), (vI (e)), (vI (a)), (vI (d'))]], [], .none, 1⟩⟩
theorem X_ppath2As1_eq (l : List (List AV)) (z : Int) (d : Int) (b : Bool) (b1 : Bool) (i : Int) (s : ByteArray) (i1 : Int) (i2 : Int) (m : List (List AV)) (a0 : Int) (z' : Int) (e : Int) (a : Int) (d' : Int) (b2 : Bool) : ((X_ppath2A l z d b b1 i s i1 i2 m a0 z' e a d').B b2).T.K ⟨tm2 66 [(0, (.ptr 0 0)), (1, (vB (b))), (2, (vB (b1))), (8, (vI (a0))), (9, (.slice 0 [] .full)), (10, (vB (b2)))], lm2 66 [], ⟨[[(.slice 4 (m) .no), (vI (z')), (vI (e)), (vI (a)), (vI (d'))]], [], .none, 1⟩⟩ =
 (.exI fun i3 =>
 (.exS fun s1 =>
 (.exI fun i4 =>
 (.exI fun i5 =>
 (.row (m) (0) [(vI (i3)), (vS (s1)), (vI (i4)), (vI (i5))]
 (.need true
 (.need (decide ((m = [] ∨ (fun x => x.size) Pg.types[y_lex_Token] = 4) ∧ (0 : Int) ≤ 1 ∧ 1 ≤ (↑m.length : Int) ∧ (↑m.length : Int) ≤ (↑m.length : Int)))
 (.stage
 (.branch (decide ((↑(List.map (fun x => List.map AV.dis x) [[normS Pg y_string (AV.val (Value.string s1)).dis]]).length : Int) > 8))
 (.need true
 (.out (.out (.need true
 (.ret ⟨(.panic (.iface y_parsecore_failure (.agg []))), .none, [[(.slice 4 (List.drop (Int.toNat 1) m) .no), (vI (z')), (vI (3)), (vI (a0)), (vI (d'))]]⟩)))))
 (.done ⟨tm2 66 [(0, (.ptr 0 0)), (1, (vB (b))), (2, (vB (b1))), (8, (vI (a0))), (9, (.slice 1 [[(vS (s1))]] .yes)), (10, (vB (b2)))], lm2 66 [], ⟨[[(.slice 4 (List.drop (Int.toNat 1) m) .no), (vI (z')), (vI (e)), (vI (a)), (vI (d'))]], [], .none, 1⟩⟩))
 ((((((X_ppath2As1 l z d b b1 i s i1 i2 m a0 z' e a d' b2).I i3).S s1).I i4).I i5).T.T.T.K))))))))) := by kernel_rfl
theorem X_ppath2As2_eq (l : List (List AV)) (z : Int) (d : Int) (b : Bool) (b1 : Bool) (i : Int) (s : ByteArray) (i1 : Int) (i2 : Int) (m : List (List AV)) (a0 : Int) (z' : Int) (e : Int) (a : Int) (d' : Int) (b2 : Bool) (i3 : Int) (s1 : ByteArray) (i4 : Int) (i5 : Int) : (((((X_ppath2As1 l z d b b1 i s i1 i2 m a0 z' e a d' b2).I i3).S s1).I i4).I i5).T.T.T.K ⟨tm2 66 [(0, (.ptr 0 0)), (1, (vB (b))), (2, (vB (b1))), (8, (vI (a0))), (9, (.slice 1 [[(vS (s1))]] .yes)), (10, (vB (b2)))], lm2 66 [], ⟨[[(.slice 4 (List.drop (Int.toNat 1) m) .no), (vI (z')), (vI (e)), (vI (a)), (vI (d'))]], [], .none, 1⟩⟩ =
 (.branch (b2)
 (.out (.need true
 (.ret ⟨(.ret (.tuple [(.slice 1 [[(vS (s1))]] .no), (vB (b2))])), .none, [[(.slice 4 (List.drop (Int.toNat 1) m) .no), (vI (z')), (vI (e)), (vI (a)), (vI (d'))]]⟩)))
 (.branch (b1)
 (.exB fun b3 =>
 (.call f_parsecore_Reader_Is [(.ptr 0 0), (vS ((⟨#[46]⟩ : ByteArray)))] .none [[(.slice 4 (List.drop (Int.toNat 1) m) .no), (vI (z')), (vI (e)), (vI (a)), (vI (d'))]] ⟨(.ret (vB (b3))), .none, [[(.slice 4 (List.drop (Int.toNat 1) m) .no), (vI (z')), (vI (e)), (vI (a)), (vI (d'))]]⟩
 (.branch (!b3)
 (.out (.need true
 (.ret ⟨(.ret (.tuple [(.slice 1 [[(vS (s1))]] .no), (vB (b2))])), .none, [[(.slice 4 (List.drop (Int.toNat 1) m) .no), (vI (z')), (vI (e)), (vI (a)), (vI (d'))]]⟩)))
 (.alt
 (.exR fun l1 =>
 (.exI fun i6 =>
 (.exI fun i7 =>
 (.exI fun i8 =>
 (.exI fun i9 =>
 (.call f_parsecore_Reader_Need [(.ptr 0 0), (vS ((⟨#[46]⟩ : ByteArray)))] .none [[(.slice 4 (List.drop (Int.toNat 1) m) .no), (vI (z')), (vI (e)), (vI (a)), (vI (d'))]] ⟨(.ret (.tuple [])), .none, [[(.slice 4 (l1) .no), (vI (i6)), (vI (i7)), (vI (i8)), (vI (i9))]]⟩
 (.done ⟨tm2 66 [(0, (.ptr 0 0)), (1, (vB (b))), (2, (vB (b1))), (8, (vI (a0))), (9, (.slice 1 [[(vS (s1))]] .yes))], lm2 66 [], ⟨[[(.slice 4 (l1) .no), (vI (i6)), (vI (i7)), (vI (i8)), (vI (i9))]], [], .none, 1⟩⟩)))))))
 (.exR fun l1 =>
 (.exI fun i6 =>
 (.exI fun i7 =>
 (.exI fun i8 =>
 (.exI fun i9 =>
 (.call f_parsecore_Reader_Need [(.ptr 0 0), (vS ((⟨#[46]⟩ : ByteArray)))] .none [[(.slice 4 (List.drop (Int.toNat 1) m) .no), (vI (z')), (vI (e)), (vI (a)), (vI (d'))]] ⟨(.panic (.iface y_parsecore_failure (.agg []))), .none, [[(.slice 4 (l1) .no), (vI (i6)), (vI (i7)), (vI (i8)), (vI (i9))]]⟩
 (.out (.need true
 (.ret ⟨(.panic (.iface y_parsecore_failure (.agg []))), .none, [[(.slice 4 (l1) .no), (vI (i6)), (vI (i7)), (vI (i8)), (vI (i9))]]⟩)))))))))))))
 (.alt
 (.exR fun l1 =>
 (.exI fun i6 =>
 (.exI fun i7 =>
 (.exI fun i8 =>
 (.exI fun i9 =>
 (.call f_parsecore_Reader_Need [(.ptr 0 0), (vS ((⟨#[46]⟩ : ByteArray)))] .none [[(.slice 4 (List.drop (Int.toNat 1) m) .no), (vI (z')), (vI (e)), (vI (a)), (vI (d'))]] ⟨(.ret (.tuple [])), .none, [[(.slice 4 (l1) .no), (vI (i6)), (vI (i7)), (vI (i8)), (vI (i9))]]⟩
 (.done ⟨tm2 66 [(0, (.ptr 0 0)), (1, (vB (b))), (2, (vB (b1))), (8, (vI (a0))), (9, (.slice 1 [[(vS (s1))]] .yes))], lm2 66 [], ⟨[[(.slice 4 (l1) .no), (vI (i6)), (vI (i7)), (vI (i8)), (vI (i9))]], [], .none, 1⟩⟩)))))))
 (.exR fun l1 =>
 (.exI fun i6 =>
 (.exI fun i7 =>
 (.exI fun i8 =>
 (.exI fun i9 =>
 (.call f_parsecore_Reader_Need [(.ptr 0 0), (vS ((⟨#[46]⟩ : ByteArray)))] .none [[(.slice 4 (List.drop (Int.toNat 1) m) .no), (vI (z')), (vI (e)), (vI (a)), (vI (d'))]] ⟨(.panic (.iface y_parsecore_failure (.agg []))), .none, [[(.slice 4 (l1) .no), (vI (i6)), (vI (i7)), (vI (i8)), (vI (i9))]]⟩
 (.out (.need true
 (.ret ⟨(.panic (.iface y_parsecore_failure (.agg []))), .none, [[(.slice 4 (l1) .no), (vI (i6)), (vI (i7)), (vI (i8)), (vI (i9))]]⟩)))))))))))) := by kernel_rfl
@[irreducible] noncomputable def X_ppath2B (l : List (List AV)) (z : Int) (d : Int) (b : Bool) (b1 : Bool) (i : Int) (s : ByteArray) (i1 : Int) (i2 : Int) (p : List (List AV)) (m : List (List AV)) (a0 : Int) (z' : Int) (e : Int) (a : Int) (d' : Int) : KT := KT.round Pg cfg0 rs0 kc5 (Y_ppath2 l z d b b1 i s i1 i2) { tmps := tm2 66 [(0, AV.ptr 0 0), (1, vB b), (2, vB b1), (8, vI a0), (9, AV.slice 1 p Own.yes)], lh := lm2 66 [], g := { H := [[AV.slice 4 m Own.no, vI z', vI e, vI a, vI d']], defers := [], rm := RM.none, base := 1 } }
theorem X_ppath2B_eq (l : List (List AV)) (z : Int) (d : Int) (b : Bool) (b1 : Bool) (i : Int) (s : ByteArray) (i1 : Int) (i2 : Int) (p : List (List AV)) (m : List (List AV)) (a0 : Int) (z' : Int) (e : Int) (a : Int) (d' : Int) : KT.round Pg cfg0 rs0 kc5 (Y_ppath2 l z d b b1 i s i1 i2) { tmps := tm2 66 [(0, AV.ptr 0 0), (1, vB b), (2, vB b1), (8, vI a0), (9, AV.slice 1 p Own.yes)], lh := lm2 66 [], g := { H := [[AV.slice 4 m Own.no, vI z', vI e, vI a, vI d']], defers := [], rm := RM.none, base := 1 } } =
 (.exB fun b2 =>
 (.call f_parsecore_Reader_of [(.ptr 0 0), (vI (1))] .none [[(.slice 4 (m) .no), (vI (z')), (vI (e)), (vI (a)), (vI (d'))]] ⟨(.ret (vB (b2))), .none, [[(.slice 4 (m) .no), (vI (z')), (vI (e)), (vI (a)), (vI (d'))]]⟩
 (.stage
 (.exB fun b3 =>
 (.call f_parsecore_Reader_of [(.ptr 0 0), (vI (2))] .none [[(.slice 4 (m) .no), (vI (z')), (vI (e)), (vI (a)), (vI (d'))]] ⟨(.ret (vB (b3))), .none, [[(.slice 4 (m) .no), (vI (z')), (vI (e)), (vI (a)), (vI (d'))]]⟩
 (.branch (!b3)
 (.branch (b2)
 (.branch (!b)
 (.branch ((↑m.length : Int) == 0)
 (.need true
 (.need true
 (.out (.out (.need true
 (.ret ⟨(.panic (.iface y_parsecore_failure (.agg []))), .none, [[(.slice 4 (m) .no), (vI (z')), (vI (11)), (vI (z')), (vI (d'))]]⟩))))))
 (.exI fun i3 =>
 (.exS fun s1 =>
 (.exI fun i4 =>
 (.exI fun i5 =>
 (.row (m) (0) [(vI (i3)), (vS (s1)), (vI (i4)), (vI (i5))]
 (.need true
 (.need true
 (.out (.out (.need true
 (.ret ⟨(.panic (.iface y_parsecore_failure (.agg []))), .none, [[(.slice 4 (m) .no), (vI (z')), (vI (11)), (vI (i5)), (vI (d'))]]⟩))))))))))))
 (.done ⟨tm2 66 [(0, (.ptr 0 0)), (1, (vB (b))), (2, (vB (b1))), (8, (vI (a0))), (9, (.slice 1 (p) .yes)), (10, (vB (b2)))], lm2 66 [], ⟨[[(.slice 4 (m) .no), (vI (z')), (vI (e)), (vI (a)), (vI (d'))]], [], .none, 1⟩⟩))
 (.branch ((↑m.length : Int) == 0)
 (.need true
 (.need true
 (.out (.out (.need true
 (.ret ⟨(.panic (.iface y_parsecore_failure (.agg []))), .none, [[(.slice 4 (m) .no), (vI (z')), (vI (11)), (vI (z')), (vI (d'))]]⟩))))))
 (.exI fun i3 =>
 (.exS fun s1 =>
 (.exI fun i4 =>
 (.exI fun i5 =>
 (.row (m) (0) [(vI (i3)), (vS (s1)), (vI (i4)), (vI (i5))]
 (.need true
 (.need true
 (.out (.out (.need true
 (.ret ⟨(.panic (.iface y_parsecore_failure (.agg []))), .none, [[(.slice 4 (m) .no), (vI (z')), (vI (11)), (vI (i5)), (vI (d'))]]⟩)))))))))))))
 (.done ⟨tm2 66 [(0, (.ptr 0 0)), (1, (vB (b))), (2, (vB (b1))), (8, (vI (a0))), (9, (.slice 1 (p) .yes)), (10, (vB (b2)))], lm2 66 [], ⟨[[(.slice 4 (m) .no), (vI (z')), (vI (e)), (vI (a)), (vI (d'))]], [], .none, 1⟩⟩))))
 (((X_ppath2B l z d b b1 i s i1 i2 p m a0 z' e a d').B b2).T.K)))) := by kernel_rfl
@[irreducible] noncomputable def X_ppath2Bs1 (l : List (List AV)) (z : Int) (d : Int) (b : Bool) (b1 : Bool) (i : Int) (s : ByteArray) (i1 : Int) (i2 : Int) (p : List (List AV)) (m : List (List AV)) (a0 : Int) (z' : Int) (e : Int) (a : Int) (d' : Int) (b2 : Bool) : KT := ((X_ppath2B l z d b b1 i s i1 i2 p m a0 z' e a d').B b2).T.K ⟨tm2 66 [(0, (.ptr 0 0)), (1, (vB (b))), (2, (vB (b1))), (8, (vI (a0))), (9, (.slice 1 (p) .yes)), (10, (vB (b2)))], lm2 66 [], ⟨[[(.slice 4 (m) .no), (vI (z')), (vI (e)), (vI (a)), (vI (d'))]], [], .none, 1⟩⟩
theorem X_ppath2Bs1_eq (l : List (List AV)) (z : Int) (d : Int) (b : Bool) (b1 : Bool) (i : Int) (s : ByteArray) (i1 : Int) (i2 : Int) (p : List (List AV)) (m : List (List AV)) (a0 : Int) (z' : Int) (e : Int) (a : Int) (d' : Int) (b2 : Bool) : ((X_ppath2B l z d b b1 i s i1 i2 p m a0 z' e a d').B b2).T.K ⟨tm2 66 [(0, (.ptr 0 0)), (1, (vB (b))), (2, (vB (b1))), (8, (vI (a0))), (9, (.slice 1 (p) .yes)), (10, (vB (b2)))], lm2 66 [], ⟨[[(.slice 4 (m) .no), (vI (z')), (vI (e)), (vI (a)), (vI (d'))]], [], .none, 1⟩⟩ =
 (.exI fun i3 =>
 (.exS fun s1 =>
 (.exI fun i4 =>
 (.exI fun i5 =>
 (.row (m) (0) [(vI (i3)), (vS (s1)), (vI (i4)), (vI (i5))]
 (.need ((p.length + [[normS Pg y_string (AV.val (Value.string s1)).dis]].length).ble 2147483648)
 (.need (decide ((m = [] ∨ (fun x => x.size) Pg.types[y_lex_Token] = 4) ∧ (0 : Int) ≤ 1 ∧ 1 ≤ (↑m.length : Int) ∧ (↑m.length : Int) ≤ (↑m.length : Int)))
 (.stage
 (.branch (decide ((↑(p ++ List.map (fun x => List.map AV.dis x) [[normS Pg y_string (AV.val (Value.string s1)).dis]]).length : Int) > 8))
 (.need true
 (.out (.out (.need true
 (.ret ⟨(.panic (.iface y_parsecore_failure (.agg []))), .none, [[(.slice 4 (List.drop (Int.toNat 1) m) .no), (vI (z')), (vI (3)), (vI (a0)), (vI (d'))]]⟩)))))
 (.done ⟨tm2 66 [(0, (.ptr 0 0)), (1, (vB (b))), (2, (vB (b1))), (8, (vI (a0))), (9, (.slice 1 (p ++ List.map (fun x => List.map AV.dis x) [[normS Pg y_string (AV.val (Value.string s1)).dis]]) .yes)), (10, (vB (b2)))], lm2 66 [], ⟨[[(.slice 4 (List.drop (Int.toNat 1) m) .no), (vI (z')), (vI (e)), (vI (a)), (vI (d'))]], [], .none, 1⟩⟩))
 ((((((X_ppath2Bs1 l z d b b1 i s i1 i2 p m a0 z' e a d' b2).I i3).S s1).I i4).I i5).T.T.T.K))))))))) := by kernel_rfl
theorem X_ppath2Bs2_eq (l : List (List AV)) (z : Int) (d : Int) (b : Bool) (b1 : Bool) (i : Int) (s : ByteArray) (i1 : Int) (i2 : Int) (p : List (List AV)) (m : List (List AV)) (a0 : Int) (z' : Int) (e : Int) (a : Int) (d' : Int) (b2 : Bool) (i3 : Int) (s1 : ByteArray) (i4 : Int) (i5 : Int) : (((((X_ppath2Bs1 l z d b b1 i s i1 i2 p m a0 z' e a d' b2).I i3).S s1).I i4).I i5).T.T.T.K ⟨tm2 66 [(0, (.ptr 0 0)), (1, (vB (b))), (2, (vB (b1))), (8, (vI (a0))), (9, (.slice 1 (p ++ List.map (fun x => List.map AV.dis x) [[normS Pg y_string (AV.val (Value.string s1)).dis]]) .yes)), (10, (vB (b2)))], lm2 66 [], ⟨[[(.slice 4 (List.drop (Int.toNat 1) m) .no), (vI (z')), (vI (e)), (vI (a)), (vI (d'))]], [], .none, 1⟩⟩ =
 (.branch (b2)
 (.out (.need true
 (.ret ⟨(.ret (.tuple [(.slice 1 (p ++ List.map (fun x => List.map AV.dis x) [[normS Pg y_string (AV.val (Value.string s1)).dis]]) .no), (vB (b2))])), .none, [[(.slice 4 (List.drop (Int.toNat 1) m) .no), (vI (z')), (vI (e)), (vI (a)), (vI (d'))]]⟩)))
 (.branch (b1)
 (.exB fun b3 =>
 (.call f_parsecore_Reader_Is [(.ptr 0 0), (vS ((⟨#[46]⟩ : ByteArray)))] .none [[(.slice 4 (List.drop (Int.toNat 1) m) .no), (vI (z')), (vI (e)), (vI (a)), (vI (d'))]] ⟨(.ret (vB (b3))), .none, [[(.slice 4 (List.drop (Int.toNat 1) m) .no), (vI (z')), (vI (e)), (vI (a)), (vI (d'))]]⟩
 (.branch (!b3)
 (.out (.need true
 (.ret ⟨(.ret (.tuple [(.slice 1 (p ++ List.map (fun x => List.map AV.dis x) [[normS Pg y_string (AV.val (Value.string s1)).dis]]) .no), (vB (b2))])), .none, [[(.slice 4 (List.drop (Int.toNat 1) m) .no), (vI (z')), (vI (e)), (vI (a)), (vI (d'))]]⟩)))
 (.alt
 (.exR fun l1 =>
 (.exI fun i6 =>
 (.exI fun i7 =>
 (.exI fun i8 =>
 (.exI fun i9 =>
 (.call f_parsecore_Reader_Need [(.ptr 0 0), (vS ((⟨#[46]⟩ : ByteArray)))] .none [[(.slice 4 (List.drop (Int.toNat 1) m) .no), (vI (z')), (vI (e)), (vI (a)), (vI (d'))]] ⟨(.ret (.tuple [])), .none, [[(.slice 4 (l1) .no), (vI (i6)), (vI (i7)), (vI (i8)), (vI (i9))]]⟩
 (.done ⟨tm2 66 [(0, (.ptr 0 0)), (1, (vB (b))), (2, (vB (b1))), (8, (vI (a0))), (9, (.slice 1 (p ++ List.map (fun x => List.map AV.dis x) [[normS Pg y_string (AV.val (Value.string s1)).dis]]) .yes))], lm2 66 [], ⟨[[(.slice 4 (l1) .no), (vI (i6)), (vI (i7)), (vI (i8)), (vI (i9))]], [], .none, 1⟩⟩)))))))
 (.exR fun l1 =>
 (.exI fun i6 =>
 (.exI fun i7 =>
 (.exI fun i8 =>
 (.exI fun i9 =>
 (.call f_parsecore_Reader_Need [(.ptr 0 0), (vS ((⟨#[46]⟩ : ByteArray)))] .none [[(.slice 4 (List.drop (Int.toNat 1) m) .no), (vI (z')), (vI (e)), (vI (a)), (vI (d'))]] ⟨(.panic (.iface y_parsecore_failure (.agg []))), .none, [[(.slice 4 (l1) .no), (vI (i6)), (vI (i7)), (vI (i8)), (vI (i9))]]⟩
 (.out (.need true
 (.ret ⟨(.panic (.iface y_parsecore_failure (.agg []))), .none, [[(.slice 4 (l1) .no), (vI (i6)), (vI (i7)), (vI (i8)), (vI (i9))]]⟩)))))))))))))
 (.alt
 (.exR fun l1 =>
 (.exI fun i6 =>
 (.exI fun i7 =>
 (.exI fun i8 =>
 (.exI fun i9 =>
 (.call f_parsecore_Reader_Need [(.ptr 0 0), (vS ((⟨#[46]⟩ : ByteArray)))] .none [[(.slice 4 (List.drop (Int.toNat 1) m) .no), (vI (z')), (vI (e)), (vI (a)), (vI (d'))]] ⟨(.ret (.tuple [])), .none, [[(.slice 4 (l1) .no), (vI (i6)), (vI (i7)), (vI (i8)), (vI (i9))]]⟩
 (.done ⟨tm2 66 [(0, (.ptr 0 0)), (1, (vB (b))), (2, (vB (b1))), (8, (vI (a0))), (9, (.slice 1 (p ++ List.map (fun x => List.map AV.dis x) [[normS Pg y_string (AV.val (Value.string s1)).dis]]) .yes))], lm2 66 [], ⟨[[(.slice 4 (l1) .no), (vI (i6)), (vI (i7)), (vI (i8)), (vI (i9))]], [], .none, 1⟩⟩)))))))
 (.exR fun l1 =>
 (.exI fun i6 =>
 (.exI fun i7 =>
 (.exI fun i8 =>
 (.exI fun i9 =>
 (.call f_parsecore_Reader_Need [(.ptr 0 0), (vS ((⟨#[46]⟩ : ByteArray)))] .none [[(.slice 4 (List.drop (Int.toNat 1) m) .no), (vI (z')), (vI (e)), (vI (a)), (vI (d'))]] ⟨(.panic (.iface y_parsecore_failure (.agg []))), .none, [[(.slice 4 (l1) .no), (vI (i6)), (vI (i7)), (vI (i8)), (vI (i9))]]⟩
 (.out (.need true
 (.ret ⟨(.panic (.iface y_parsecore_failure (.agg []))), .none, [[(.slice 4 (l1) .no), (vI (i6)), (vI (i7)), (vI (i8)), (vI (i9))]]⟩)))))))))))) := by kernel_rfl
end Go.Proofs
end

section
/- PARSE: the program's reader: Is, of, Take, Need, taken -/
set_option linter.unusedVariables false
set_option linter.unusedSimpArgs false
set_option maxRecDepth 100000
open Go Go.Eng Go.Pa
open Go.Lx (T Tok)
namespace Go.Proofs
theorem kt5_is {f : FuncId} {args : List AV} {H : Heap} {r : CRes} (h : (kt5 f args H).wp Pg cfg0 evp [] (fun x => x = r)) : evp f args .none H = some r := kt5_ev h
theorem retH {x y : AV} {H : Heap} (h : x = y) : (⟨.ret x, .none, H⟩ : CRes) = ⟨.ret y, .none, H⟩ := by rw [h]
theorem kq (a b : Nat) : ((a : Int) == (b : Int)) = (a == b) := by
  rw [Bool.eq_iff_iff, beq_iff_eq, beq_iff_eq]; omega
theorem tok_size : ((fun x => x.size) Pg.types[y_lex_Token] : Nat) = 4 := by kernel_rfl
theorem cut1 {t : Tok} {r : List Tok} : decide ((tks (t :: r) = [] ∨ (fun x => x.size) Pg.types[y_lex_Token] = 4) ∧ (0 : Int) ≤ 1 ∧ 1 ≤ ((tks (t :: r)).length : Int) ∧ ((tks (t :: r)).length : Int) ≤ ((tks (t :: r)).length : Int)) = true :=
  decide_eq_true ⟨.inr tok_size, by decide, by simp; omega, Int.le_refl _⟩
theorem row0 {t : Tok} {r : List Tok} : (0 : Int) ≤ 0 ∧ (tks (t :: r))[(0 : Int).toNat]? = some [vI t.kind, vS ⟨t.text.toArray⟩, vI t.n, vI t.at_] := ⟨Int.le_refl _, rfl⟩
theorem lows_tks (n : Nat) : ∀ l : List Tok, lowss n (tks l) = true
  | [] => rfl
  | t :: l => by simp only [tks, List.map_cons, lowss, lows_tks n l]; rfl
theorem ren_tks (ρ : Nat → Nat) : ∀ l : List Tok, renss ρ (tks l) = tks l
  | [] => rfl
  | t :: l => by simp only [tks, List.map_cons, renss, ren_tks ρ l]; rfl
theorem inv5 (l : List Tok) (z e p d : Int) : Inv1 (hp5 (tks l) z e p d) := fun k => by
  simp only [hp5, List.map_cons, List.map_nil, AV.ren, ren_tks]; rfl
theorem lift5 {f : FuncId} {args : List AV} {o : Out} {m m' : List Tok} {z e p d z' e' p' d' : Int} {K : Heap} (h : evp f args .none [hp5 (tks m) z e p d] = some ⟨o, .none, [hp5 (tks m') z' e' p' d']⟩)
    (ha : Inv1 args) (ho : ∀ k, renOut (rho1 k) o = o) (hk : lowss (1 + K.length) K = true) : evp f args .none (hp5 (tks m) z e p d :: K) = some ⟨o, .none, hp5 (tks m') z' e' p' d' :: K⟩ :=
  ev_lift1 gx_ren h ha (inv5 _ _ _ _ _) (inv5 _ _ _ _ _) ho hk
theorem wrapU {d : Nat} (hB : d < BIG) : IntKind.i64.wrap ((d : Int) + 1) = ((d + 1 : Nat) : Int) := kw_succ (by unfold BIG at hB; omega)
theorem wrapD {d : Nat} (hB : d < BIG) : IntKind.i64.wrap (((d + 1 : Nat) : Int) - 1) = (d : Int) := kw_pred (by unfold BIG at hB; omega)
theorem nf {p : Prop} (h : false = true) : p := by cases h
theorem tf {p : Prop} (h : true = false) : p := by cases h
theorem len0 {t : Tok} {r : List Tok} {p : Prop} (h : (((tks (t :: r)).length : Int) == 0) = true) : p := by simp at h; omega
theorem c_pIs (l : List Tok) (z d : Nat) (w : ByteArray) : evp f_parsecore_Reader_Is [.ptr 0 0, vS w] .none (rH l z d) = some ⟨.ret (vB (isW (tx w) l)), .none, rH l z d⟩ := by
  refine kt5_is (wp_eq2 (X_pIs_eq ..) (wp_stage (wp_if2 nf fun _ => wp_if2 (fun h => absurd h (by decide)) fun _ => ?_)))
  cases l with
  | nil => exact wp_if2 (fun _ => wp_out ⟨rfl, wp_if2 nf (fun _ => ⟨rfl, rfl⟩)⟩) (fun h => absurd h (by decide))
  | cons t r =>
    refine wp_if2 len0 (fun _ => wp_done (wp_eq2 (X_pIss1_eq ..) ⟨_, _, _, _, row0, rfl, wp_if2 (fun _ => ?_) tf⟩))
    have e3 : ((t.kind : Int) == 3) = (t.kind == 3) := kq _ 3
    have e6 : ((t.kind : Int) == 6) = (t.kind == 6) := kq _ 6
    rw [e3, e6]
    refine wp_if2 (fun h => ⟨rfl, retH (congrArg vB ?_)⟩) (fun h => wp_if2 (fun h6 => ⟨rfl, retH (congrArg vB ?_)⟩) (fun h6 => ⟨rfl, retH (congrArg vB ?_)⟩))
    · rw [beq_tx]; simp [isW, h, tx]
    · rw [beq_tx]; simp [isW, h6, tx]
    · simp [isW, h, h6]
theorem c_pof (l : List Tok) (z d k : Nat) : evp f_parsecore_Reader_of [.ptr 0 0, vI (k : Int)] .none (rH l z d) = some ⟨.ret (vB (ofK k l)), .none, rH l z d⟩ := by
  refine kt5_is (wp_eq2 (X_pof_eq ..) (wp_stage (wp_if2 nf fun _ => wp_if2 (fun h => absurd h (by decide)) fun _ => ?_)))
  cases l with
  | nil => exact wp_if2 (fun _ => wp_out ⟨rfl, wp_if2 nf (fun _ => ⟨rfl, rfl⟩)⟩) (fun h => absurd h (by decide))
  | cons t r =>
    refine wp_if2 len0 (fun _ => wp_done (wp_eq2 (X_pofs1_eq ..) ⟨_, _, _, _, row0, rfl, wp_if2 (fun _ => ⟨rfl, retH (congrArg vB ?_)⟩) tf⟩))
    exact kq _ _
theorem c_pTake (l : List Tok) (z d : Nat) (w : ByteArray) : evp f_parsecore_Reader_Take [.ptr 0 0, vS w] .none (rH l z d) = some ⟨.ret (vB (isW (tx w) l)), .none, rH (if isW (tx w) l then l.tail else l) z d⟩ := by
  refine kt5_is (wp_eq2 (X_pTake_eq ..) ⟨_, c_pIs l z d w, ?_⟩)
  cases hb : isW (tx w) l with
  | false => exact wp_if2 (fun _ => ⟨rfl, rfl⟩) tf
  | true =>
    cases l with
    | nil => cases hb
    | cons t r => exact wp_if2 nf (fun _ => ⟨cut1, rfl, rfl⟩)
theorem c_pNeed {l : List Tok} {z d : Nat} {w : ByteArray} (hg : Gd l) (hd : 0 < d) (hB : d < BIG) : RC unitV (need z (tx w) l) z d f_parsecore_Reader_Need [.ptr 0 0, vS w] (rH l z d) := by
  have h1 := wrapU hB
  have h2 := wrapD hB
  refine rc_of (wp_eq2 (X_pNeed_eq ..) (wp_stage (wp_if2 nf fun _ => wp_if2 (fun h => absurd h (by decide)) fun _ => wp_done (wp_eq2 (X_pNeeds1_eq ..) ?_))))
  have c := lift5 (K := [[vB false]]) (c_pTake l z (d + 1) w) (fun _ => rfl) (fun _ => rfl) rfl
  rw [h1]
  have hpos : decide (IntKind.i64.wrap (((d + 1 : Nat) : Int) - 1) > 0) = true := by rw [h2]; exact decide_eq_true (by omega)
  cases hb : isW (tx w) l with
  | true =>
    rw [hb] at c
    refine ⟨true, _, _, _, _, _, _, c, wp_if2 nf fun _ => ⟨rfl, wp_if2 (fun _ => ⟨lows_tks .., rfl, ?_⟩) tf⟩⟩
    rw [h2]; exact rq_ok (by unfold need; rw [if_pos hb]; rfl) hg.tail rfl
  | false =>
    rw [hb] at c
    have hn : need z (tx w) l = .no 11 (pl z l) := by unfold need; rw [if_neg (by rw [hb]; decide)]
    refine ⟨false, _, _, _, _, _, _, c, wp_if2 (fun _ => ?_) tf⟩
    cases l with
    | nil =>
      refine wp_if2 (fun _ => ⟨rfl, rfl, rfl, wp_if2 nf fun _ => wp_if2 (fun _ => wp_if2 (fun _ => ⟨lows_tks 1 [], rfl, ?_⟩) (fun h => by rw [hpos] at h; cases h)) tf⟩) (fun h => absurd h (by decide))
      rw [h2]; exact rq_no (l := []) hn (by decide)
    | cons t r =>
      refine wp_if2 len0 (fun _ => ⟨_, _, _, _, row0, rfl, rfl, rfl, wp_if2 nf fun _ => wp_if2 (fun _ => wp_if2 (fun _ => ⟨lows_tks .., rfl, ?_⟩) (fun h => by rw [hpos] at h; cases h)) tf⟩)
      rw [h2]; exact rq_no hn (by decide)
theorem c_ptaken {l : List Tok} {z d k : Nat} (hg : Gd l) (hd : 0 < d) (hB : d < BIG) : RC strV (taken z k l) z d f_parsecore_Reader_taken [.ptr 0 0, vI (k : Int)] (rH l z d) := by
  have h1 := wrapU hB
  have h2 := wrapD hB
  refine rc_of (wp_eq2 (X_ptaken_eq ..) (wp_stage (wp_if2 nf fun _ => wp_if2 (fun h => absurd h (by decide)) fun _ => wp_done (wp_eq2 (X_ptakens1_eq ..) (wp_stage ?_)))))
  have c := lift5 (K := [[vS ⟨#[]⟩]]) (c_pof l z (d + 1) k) (fun _ => rfl) (fun _ => rfl) rfl
  have hpos : decide (IntKind.i64.wrap (((d + 1 : Nat) : Int) - 1) > 0) = true := by rw [h2]; exact decide_eq_true (by omega)
  rw [h1]
  refine ⟨_, c, ?_⟩
  cases l with
  | nil =>
    refine wp_if2 (fun _ => wp_if2 (fun _ => ⟨rfl, rfl, wp_out ⟨rfl, wp_if2 nf fun _ => wp_if2 (fun _ => wp_if2 (fun _ => ⟨lows_tks 1 [], rfl, ?_⟩) (fun h => by rw [hpos] at h; cases h)) tf⟩⟩) (fun h => absurd h (by decide))) tf
    rw [h2]; exact rq_no (l := []) (p := z) rfl (by decide)
  | cons t r =>
    cases hk : ofK k (t :: r) with
    | false =>
      refine wp_if2 (fun _ => wp_if2 len0 (fun _ => ⟨_, _, _, _, row0, rfl, rfl, wp_out ⟨rfl, wp_if2 nf fun _ => wp_if2 (fun _ => wp_if2 (fun _ => ⟨lows_tks .., rfl, ?_⟩) (fun h => by rw [hpos] at h; cases h)) tf⟩⟩)) tf
      have hk2 : (t.kind == k) = false := hk
      rw [h2]; exact rq_no (p := t.at_) (by simp only [taken, hk2, Bool.false_eq_true, if_false]) (by decide)
    | true =>
      have hk2 : (t.kind == k) = true := hk
      have e := X_ptakens2_eq (tks (t :: r)) z d k
      rw [h1] at e
      refine wp_if2 nf (fun _ => wp_done (wp_eq2 e ⟨_, _, _, _, row0, cut1, rfl, wp_if2 (fun _ => ⟨lows_tks 1 r, rfl, ?_⟩) tf⟩))
      rw [h2]; exact rq_ok (a := t.text) (l := r) (by simp only [taken, hk2, if_true]) hg.cons.2 rfl
end Go.Proofs
end
