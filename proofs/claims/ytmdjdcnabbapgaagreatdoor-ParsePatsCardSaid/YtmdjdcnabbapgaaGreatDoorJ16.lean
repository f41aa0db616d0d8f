/- Texts of this proof folded into one: Z7 RX1 RX2 R2 R3 R4 TE. -/
import Derived.Test.YtmdjdcnabbapgaaGreatDoorJ14
import Derived.Test.YtmdjdcnabbapgaaGreatDoorJ15
import Derived.Test.YtmdjdcnabbapgaaGreatDoorJ7
section
/- LEX: what the document's functions answer, part 1 -/
open Go Go.Eng Go.Lx
namespace Go.Proofs
set_option linter.unusedVariables false
set_option linter.unusedSimpArgs false
set_option maxRecDepth 100000
theorem wrapU64 (n : Int) : IntKind.u64.wrap n = n % 18446744073709551616 := by simp [IntKind.wrap, IntKind.bits, IntKind.signed]
theorem contains_snoc {c : UInt8} {l : T} {m : UInt8} (h1 : l.contains c = false) (h2 : ¬ m = c) : (l ++ [m]).contains c = false := by
  have h3 : ¬ c ∈ l := by simpa using h1
  simp [h3]
  exact fun e => h2 e.symm
theorem t97 : (97 : UInt8).toNat = 97 := rfl
theorem t122 : (122 : UInt8).toNat = 122 := rfl
theorem t65 : (65 : UInt8).toNat = 65 := rfl
theorem t90 : (90 : UInt8).toNat = 90 := rfl
theorem t48 : (48 : UInt8).toNat = 48 := rfl
theorem t57 : (57 : UInt8).toNat = 57 := rfl
theorem c_rlow (c : UInt8) : evp f_waferref03_low [vY c] .none [] = some ⟨.ret (vB (low c)), .none, []⟩ := by
  refine kt3_ev (wp_eq2 (X_rlow_eq c) (wp_if2 (fun h => ⟨rfl, ret_eq (congrArg vB ?_)⟩) (fun h => ⟨rfl, ret_eq (congrArg vB ?_)⟩)))
  · have h := of_decide_eq_true h
    rw [Bool.eq_iff_iff]
    simp only [low, decide_eq_true_iff, Bool.and_eq_true, UInt8.le_iff_toNat_le, t97, t122]; omega
  · have h := of_decide_eq_false h
    rw [Bool.eq_iff_iff]
    simp only [low, decide_eq_true_iff, Bool.and_eq_true, UInt8.le_iff_toNat_le, t97, t122, Bool.false_eq_true, false_iff]; omega
theorem c_rhigh (c : UInt8) : evp f_waferref03_high [vY c] .none [] = some ⟨.ret (vB (high c)), .none, []⟩ := by
  refine kt3_ev (wp_eq2 (X_rhigh_eq c) (wp_if2 (fun h => ⟨rfl, ret_eq (congrArg vB ?_)⟩) (fun h => ⟨rfl, ret_eq (congrArg vB ?_)⟩)))
  · have h := of_decide_eq_true h
    rw [Bool.eq_iff_iff]
    simp only [high, decide_eq_true_iff, Bool.and_eq_true, UInt8.le_iff_toNat_le, t65, t90]; omega
  · have h := of_decide_eq_false h
    rw [Bool.eq_iff_iff]
    simp only [high, decide_eq_true_iff, Bool.and_eq_true, UInt8.le_iff_toNat_le, t65, t90, Bool.false_eq_true, false_iff]; omega
theorem c_rdigit (c : UInt8) : evp f_waferref03_digit [vY c] .none [] = some ⟨.ret (vB (digit c)), .none, []⟩ := by
  refine kt3_ev (wp_eq2 (X_rdigit_eq c) (wp_if2 (fun h => ⟨rfl, ret_eq (congrArg vB ?_)⟩) (fun h => ⟨rfl, ret_eq (congrArg vB ?_)⟩)))
  · have h := of_decide_eq_true h
    rw [Bool.eq_iff_iff]
    simp only [digit, decide_eq_true_iff, Bool.and_eq_true, UInt8.le_iff_toNat_le, t48, t57]; omega
  · have h := of_decide_eq_false h
    rw [Bool.eq_iff_iff]
    simp only [digit, decide_eq_true_iff, Bool.and_eq_true, UInt8.le_iff_toNat_le, t48, t57, Bool.false_eq_true, false_iff]; omega
theorem ceq (c k : UInt8) : ((c.toNat : Int) == (k.toNat : Int)) = (c == k) := by
  rw [Bool.eq_iff_iff]
  simp only [beq_iff_eq]
  constructor
  · intro h; exact UInt8.toNat_inj.1 (by omega)
  · rintro rfl; rfl
theorem c_rblank (c : UInt8) : evp f_waferref03_blank [vY c] .none [] = some ⟨.ret (vB (Lx.blank c)), .none, []⟩ := by
  have e1 : ((c.toNat : Int) == 32) = (c == 32) := ceq c 32
  have e2 : ((c.toNat : Int) == 9) = (c == 9) := ceq c 9
  have e3 : ((c.toNat : Int) == 10) = (c == 10) := ceq c 10
  have e4 : ((c.toNat : Int) == 13) = (c == 13) := ceq c 13
  refine kt3_ev (wp_eq2 (X_rblank_eq c) ?_)
  rw [e1, e2, e3, e4]
  refine wp_if2 (fun h => ⟨rfl, ret_eq (congrArg vB ?_)⟩) (fun h1 => wp_if2 (fun h => ⟨rfl, ret_eq (congrArg vB ?_)⟩) (fun h2 => wp_if2 (fun h => ⟨rfl, ret_eq (congrArg vB ?_)⟩) (fun h3 => ⟨rfl, ret_eq (congrArg vB ?_)⟩)))
  · simp [Lx.blank, h]
  · simp [Lx.blank, h]
  · simp [Lx.blank, h]
  · simp [Lx.blank, h1, h2, h3]
theorem c_rtwo {s p : ByteArray} {a : Nat} (hs : s.size < BIG) (ha : a ≤ s.size) (hp : (tx p).length = 2) : evp f_waferref03_two [vS s, vI a, vS p] .none [] = some ⟨.ret (vB (pre (tx p) ((tx s).drop a))), .none, []⟩ := by
  refine kt3_ev (wp_eq2 (X_rtwo_eq s a p) ?_)
  rw [kw_two (by omega)]
  refine wp_if2 (fun h => ?_) (fun h => ?_)
  · have h := of_decide_eq_true h
    refine ⟨by apply decide_eq_true; omega, rfl, ret_eq (congrArg vB ?_)⟩
    rw [Int.toNat_natCast, Int.toNat_natCast, beq_tx, tx_ext_n, pre_take, hp, List.length_drop, tx_len]
    simp only [decide_eq_decide]
    exact ⟨fun e => ⟨by omega, e⟩, fun e => e.2⟩
  · have h := of_decide_eq_false h
    refine ⟨rfl, ret_eq (congrArg vB ?_)⟩
    rw [pre_take, hp, List.length_drop, tx_len]
    symm
    rw [decide_eq_false_iff_not]
    rintro ⟨e, _⟩; omega
theorem c_ropens {s : ByteArray} {i : Nat} (hs : s.size < BIG) (ha : i ≤ s.size) : evp f_waferref03_two [vS s, vI i, vS ⟨#[40, 42]⟩] .none [] = some ⟨.ret (vB (Lx.opens ((tx s).drop i))), .none, []⟩ := by
  rw [c_rtwo hs ha rfl, ← pre_opens]
theorem c_rcloses {s : ByteArray} {i : Nat} (hs : s.size < BIG) (ha : i ≤ s.size) : evp f_waferref03_two [vS s, vI i, vS ⟨#[42, 41]⟩] .none [] = some ⟨.ret (vB (Lx.closes ((tx s).drop i))), .none, []⟩ := by
  rw [c_rtwo hs ha rfl, ← pre_closes]
theorem y_rremark (s : ByteArray) (a : Nat) : kt3 f_waferref03_remark [vS s, vI a] [] = Y_rremark s a := by delta Y_rremark; rfl
theorem c_rremark {s : ByteArray} {a : Nat} (hs : s.size < BIG) (ha : a ≤ s.size) (ho : Lx.opens ((tx s).drop a) = true) : evp f_waferref03_remark [vS s, vI a] .none [] = some ⟨.ret (vI (remA a (rem ((tx s).drop a) 0))), .none, []⟩ := by
  refine kt3_ev (wp_eq2 (y_rremark ..) ?_)
  refine loop3 (fun x : Nat × Nat => ⟨tm2 31 [(0, vS s), (1, vI x.1), (5, vI x.2)], lm2 31 [], ⟨[], [], .none, 0⟩⟩)
    (fun x => a ≤ x.1 ∧ x.1 ≤ s.size ∧ remA x.1 (rem ((tx s).drop x.1) x.2) = remA a (rem ((tx s).drop a) 0) ∧ x.2 ≤ x.1 ∧ (x.2 = 0 → Lx.opens ((tx s).drop x.1) = true)) (fun x => s.size - x.1) (a, 0) (by kernel_rfl) ⟨Nat.le_refl _, ha, rfl, Nat.zero_le _, fun _ => ho⟩ ?_
  rintro ⟨i, d⟩ ⟨h1, h2, h3, h4, h5⟩
  simp only at h1 h2 h3 h4 h5
  refine wp_eq2 (X_rremarkR_eq s a i d) (wp_if2 (fun h => ?_) (fun h => ?_))
  · have h := of_decide_eq_true h
    obtain ⟨c, r, hd, hc, hr⟩ := tx_at (s := s) (i := i) (by omega)
    have hr2 : r.drop 1 = (tx s).drop (i + 2) := by rw [hr, List.drop_drop]
    have hl2 : ∀ {q : Nat → Nat} {x : Option Nat} {n : Nat}, remA i (x.map (· + n)) = remA (i + n) x := by
      intro q x n
      cases x with
      | none => rfl
      | some y => simp only [Option.map_some, remA]; congr 1; omega
    have hlen : (tx s).drop i = c :: r → r ≠ [] → i + 2 ≤ s.size := by
      intro e hne
      have := congrArg List.length e
      cases r with
      | nil => exact absurd rfl hne
      | cons x r => simp only [List.length_drop, tx_len, List.length_cons] at this; omega
    rw [hd, rem_cons] at h3
    refine ⟨_, c_ropens hs h2, wp_if2 (fun hb => ?_) (fun hb => ?_)⟩
    · rw [hd] at hb
      have hne : r ≠ [] := by rintro rfl; rw [opens_eq] at hb; simp at hb
      rw [if_pos hb, hr2, hl2 (q := id)] at h3
      rw [kw_two (by omega), kw_succ' (by omega)]
      exact wp_done ⟨(i + 2, d + 1), ⟨⟨by simp only; omega, hlen hd hne, h3, by simp only; omega, fun h => by simp at h⟩, by simp only; omega⟩, rfl⟩
    · rw [hd] at hb
      have hd0 : 1 ≤ d := by
        rcases Nat.eq_zero_or_pos d with e | e
        · rw [hd, hb] at h5; exact absurd (h5 e) (by decide)
        · exact e
      rw [if_neg (by rw [hb]; decide)] at h3
      have hw : IntKind.i64.wrap ((d : Int) - 1) = ((d - 1 : Nat) : Int) := by rw [IntKind.wrap_i64]; unfold BIG at hs; omega
      refine ⟨_, c_rcloses hs h2, wp_if2 (fun hb2 => ?_) (fun hb2 => ?_)⟩
      · rw [hd] at hb2
        have hne : r ≠ [] := by rintro rfl; rw [closes_eq] at hb2; simp at hb2
        rw [if_pos hb2] at h3
        rw [hw, kw_two (by omega)]
        refine wp_if2 (fun hz => ?_) (fun hz => ?_)
        · have hz : ((d - 1 : Nat) : Int) = 0 := by simpa using hz
          rw [if_pos (by omega)] at h3
          exact wp_out ⟨rfl, ret_eq (by rw [← h3]; rfl)⟩
        · have hz : ¬ ((d - 1 : Nat) : Int) = 0 := by simpa using hz
          rw [if_neg (by omega), hr2, hl2 (q := id)] at h3
          exact wp_done ⟨(i + 2, d - 1), ⟨⟨by simp only; omega, hlen hd hne, h3, by simp only; omega, fun h => by simp only at h; omega⟩, by simp only; omega⟩, rfl⟩
      · rw [hd] at hb2
        rw [if_neg (by rw [hb2]; decide), hr, hl2 (q := id)] at h3
        rw [kw_succ' (by omega)]
        exact wp_done ⟨(i + 1, d), ⟨⟨by simp only; omega, by simp only; omega, h3, by simp only; omega, fun h => by simp only at h; omega⟩, by simp only; omega⟩, rfl⟩
  · have h := of_decide_eq_false h
    have : i = s.size := by omega
    subst this
    refine wp_out ⟨rfl, ret_eq ?_⟩
    rw [← h3, List.drop_eq_nil_of_le (by rw [tx_len]; omega), rem_nil]; rfl
theorem y_rskip (s : ByteArray) (a : Nat) : kt3 f_waferref03_skip [vS s, vI a] [] = Y_rskip s a := by delta Y_rskip; rfl
theorem c_rskip {s : ByteArray} {a : Nat} (hs : s.size < BIG) (ha : a ≤ s.size) : evp f_waferref03_skip [vS s, vI a] .none [] = some ⟨.ret (.tuple [vI ((a + (skp ((tx s).drop a)).1 : Nat) : Int), vB (skp ((tx s).drop a)).2]), .none, []⟩ := by
  refine kt3_ev (wp_eq2 (y_rskip ..) ?_)
  refine loop3 (fun i : Nat => ⟨tm2 30 [(0, vS s), (1, vI i)], lm2 30 [], ⟨[], [], .none, 0⟩⟩)
    (fun i => a ≤ i ∧ i ≤ s.size ∧ i + (skp ((tx s).drop i)).1 = a + (skp ((tx s).drop a)).1 ∧ (skp ((tx s).drop i)).2 = (skp ((tx s).drop a)).2) (fun i => s.size - i) a (by kernel_rfl) ⟨Nat.le_refl _, ha, rfl, rfl⟩ ?_
  rintro i ⟨h1, h2, h3, h4⟩
  rw [← h3, ← h4]
  refine wp_eq2 (X_rskipR_eq s a i) (wp_if2 (fun h => ?_) (fun h => ?_))
  · have h := of_decide_eq_true h
    obtain ⟨c, r, hd, hc, hr⟩ := tx_at (s := s) (i := i) (by omega)
    refine wp_at hc ⟨_, c_rblank c, wp_if2 (fun hb => ?_) (fun hb => ?_)⟩
    · rw [hd, skp_cons, if_pos hb] at h3 h4 ⊢
      rw [hr] at h3 h4 ⊢
      rw [kw_succ' (by omega)]
      exact wp_done ⟨i + 1, ⟨⟨by omega, by omega, by simp only at h3 ⊢; omega, rfl⟩, by omega⟩, rfl⟩
    · refine ⟨_, c_ropens hs h2, wp_if2 (fun ho => ?_) (fun ho => ?_)⟩
      · have ho : Lx.opens ((tx s).drop i) = false := by simpa using ho
        rw [hd] at ho
        rw [hd, skp_cons, if_neg (by rw [hb]; decide), if_neg (by rw [ho]; decide)]
        exact wp_out ⟨rfl, rfl⟩
      · have ho : Lx.opens ((tx s).drop i) = true := by simpa using ho
        refine ⟨_, c_rremark hs h2 ho, ?_⟩
        rw [hd] at ho ⊢
        rw [hd, skp_cons, if_neg (by rw [hb]; decide), if_pos ho] at h3 h4
        rw [skp_cons, if_neg (by rw [hb]; decide), if_pos ho]
        cases hrm : rem (c :: r) 0 with
        | none =>
          simp only
          refine wp_if2 (fun hz => ?_) (fun hz => ?_)
          · exact wp_out ⟨rfl, rfl⟩
          · simp [remA] at hz
        | some n =>
          simp only [hrm] at h3 h4 ⊢
          have hn := rem_bound hrm
          have hl := congrArg List.length hd
          simp only [List.length_drop, tx_len, List.length_cons] at hl hn
          refine wp_if2 (fun hz => ?_) (fun hz => ?_)
          · have := of_decide_eq_true hz; simp only [remA] at this; omega
          · have he : r.drop (n - 1) = (tx s).drop (i + n) := by rw [drop_pred c r (by omega), ← hd, List.drop_drop]
            rw [he] at h3 h4 ⊢
            exact wp_done ⟨i + n, ⟨⟨by omega, by omega, by omega, rfl⟩, by omega⟩, rfl⟩
  · have h := of_decide_eq_false h
    have : i = s.size := by omega
    subst this
    rw [List.drop_eq_nil_of_le (by rw [tx_len]; omega), skp_nil]
    exact wp_out ⟨rfl, rfl⟩
def runB (w : Bool) : UInt8 → Bool := if w then wordB else tyvB
theorem y_rrun (s : ByteArray) (a : Nat) (w : Bool) : kt3 f_waferref03_run [vS s, vI a, vB w] [] = Y_rrun s a w := by delta Y_rrun; rfl
theorem c_rrun {s : ByteArray} {a : Nat} (w : Bool) (hs : s.size < BIG) (ha : a ≤ s.size) : evp f_waferref03_run [vS s, vI a, vB w] .none [] = some ⟨.ret (vI ((a + span (runB w) ((tx s).drop a) : Nat) : Int)), .none, []⟩ := by
  refine kt3_ev (wp_eq2 (y_rrun ..) ?_)
  refine loop3 (fun i : Nat => ⟨tm2 41 [(0, vS s), (1, vI i), (2, vB w)], lm2 41 [], ⟨[], [], .none, 0⟩⟩) (fun i => a ≤ i ∧ i ≤ s.size ∧ i + span (runB w) ((tx s).drop i) = a + span (runB w) ((tx s).drop a)) (fun i => s.size - i) a (by kernel_rfl) ⟨Nat.le_refl _, ha, rfl⟩ ?_
  rintro i ⟨h1, h2, h3⟩
  refine wp_eq2 (X_rrunR_eq s a i w) (wp_if2 (fun h => ?_) (fun h => ?_))
  · have h := of_decide_eq_true h
    obtain ⟨c, r, hd, hc, hr⟩ := tx_at (s := s) (i := i) (by omega)
    rw [hd, span] at h3
    have e95 : ((c.toNat : Int) == 95) = (c == 95) := ceq c 95
    have yes : runB w c = true → i + 1 + span (runB w) ((tx s).drop (i + 1)) = a + span (runB w) ((tx s).drop a) := fun hb => by
      rw [if_pos hb, hr] at h3; omega
    have no : runB w c = false → i = a + span (runB w) ((tx s).drop a) := fun hb => by
      rw [if_neg (by rw [hb]; decide)] at h3; omega
    have go : ∀ {QD : List (St → Prop)} {QR : CRes → Prop}, runB w c = true → (KT.done ⟨tm2 41 [(0, (vS (s))), (1, (vI (IntKind.i64.wrap ((↑i : Int) + 1)))), (2, (vB (w)))], lm2 41 [], ⟨[], [], .none, 0⟩⟩).wp Pg cfg0 evp ((fun s_1 => ∃ a', ((a ≤ a' ∧ a' ≤ s.size ∧ a' + span (runB w) ((tx s).drop a') = a + span (runB w) ((tx s).drop a)) ∧ s.size - a' < s.size - i) ∧ s_1 = ⟨tm2 41 [(0, vS s), (1, vI (a' : Nat)), (2, vB w)], lm2 41 [], ⟨[], [], .none, 0⟩⟩) :: QD) QR := fun {QD QR} hb => by
      rw [kw_succ' (by omega)]
      exact wp_done ⟨i + 1, ⟨⟨by omega, by omega, yes hb⟩, by omega⟩, rfl⟩
    have stop : runB w c = false → (⟨.ret (vI (i : Int)), .none, []⟩ : CRes) = ⟨.ret (vI ((a + span (runB w) ((tx s).drop a) : Nat) : Int)), .none, []⟩ := fun hb => ret_eq (by rw [← no hb])
    refine wp_at hc ⟨_, c_rlow c, wp_if2 (fun hl => go ?_) (fun hl => wp_at hc ⟨_, c_rdigit c, wp_if2 (fun hg => go ?_) (fun hg => wp_if2 (fun hw => wp_at hc ⟨_, c_rhigh c, wp_if2 (fun hh => go ?_) (fun hh => wp_at hc ?_)⟩) (fun hw => wp_out ⟨rfl, stop ?_⟩))⟩)⟩
    · cases w <;> simp [runB, wordB, tyvB, hl]
    · cases w <;> simp [runB, wordB, tyvB, hg]
    · rw [hw]; simp [runB, wordB, hh]
    · rw [e95]
      refine wp_if2 (fun h9 => go ?_) (fun h9 => wp_out ⟨rfl, stop ?_⟩)
      · rw [hw]; simp [runB, wordB, h9]
      · rw [hw]; simp [runB, wordB, hl, hg, hh, h9]
    · rw [hw]; simp [runB, tyvB, hl, hg]
  · have h := of_decide_eq_false h
    have : i = s.size := by omega
    subst this
    refine wp_out ⟨rfl, ret_eq ?_⟩
    rw [← h3, List.drop_eq_nil_of_le (by rw [tx_len]; omega)]; rfl
/-! ### the words -/
def wrow (w : T) : List AV := [vS ⟨w.toArray⟩]
theorem y_Has (l : List (List AV)) (s : ByteArray) : kt3 f_waferref02_Has [.slice 1 l .full, vS s] [] = Y_Has l s := by delta Y_Has; rfl
theorem c_Has {ws : List T} {s : ByteArray} (hw : ws.length < BIG) : evp f_waferref02_Has [.slice 1 (ws.map wrow) .full, vS s] .none [] = some ⟨.ret (vB (ws.any fun w => decide (tx s = w))), .none, []⟩ := by
  refine kt3_ev (wp_eq2 (y_Has ..) ?_)
  refine loop3 (fun i : Nat => ⟨tm2 18 [(0, (.slice 1 (ws.map wrow) .full)), (1, vS s), (5, vI i)], lm2 18 [], ⟨[], [], .none, 0⟩⟩) (fun i => i ≤ ws.length ∧ (ws.take i).any (fun w => decide (tx s = w)) = false) (fun i => ws.length - i) 0 (by kernel_rfl) ⟨Nat.zero_le _, rfl⟩ ?_
  rintro i ⟨h1, h2⟩
  refine wp_eq2 (X_HasR_eq _ s i) (wp_if2 (fun h => ?_) (fun h => ?_))
  · have h := of_decide_eq_true h
    rw [List.length_map] at h
    have hi : i < ws.length := by omega
    have hrow : (ws.map wrow)[(i : Int).toNat]? = some [vS ⟨(ws[i]).toArray⟩] := by rw [Int.toNat_natCast]; simp [hi, wrow]
    refine ⟨_, ⟨Int.natCast_nonneg i, hrow⟩, ?_⟩
    have ht : tx ⟨(ws[i]).toArray⟩ = ws[i] := by simp [tx]
    rw [beq_tx, ht]
    refine wp_if2 (fun he => ?_) (fun he => ?_)
    · have he := of_decide_eq_true he
      refine wp_out ⟨rfl, ret_eq (congrArg vB ?_)⟩
      symm
      rw [List.any_eq_true]
      exact ⟨ws[i], List.getElem_mem hi, decide_eq_true he.symm⟩
    · have he := of_decide_eq_false he
      rw [kw_succ' (by omega)]
      refine wp_done ⟨i + 1, ⟨⟨by omega, ?_⟩, by omega⟩, rfl⟩
      rw [List.take_succ_eq_append_getElem hi, List.any_append, h2]
      simp
      exact fun e => he e.symm
  · have h := of_decide_eq_false h
    rw [List.length_map] at h
    rw [List.take_of_length_le (by omega)] at h2
    exact wp_out ⟨rfl, ret_eq (congrArg vB h2.symm)⟩
theorem c_rReserved (s : ByteArray) : evp f_waferref02_Reserved [vS s] .none [] = some ⟨.ret (vB (resP (tx s))), .none, []⟩ :=
  kt3_ev (wp_eq2 (X_rReserved_eq s) ⟨rfl, _, c_Has (ws := words) (by decide), rfl, rfl⟩)
/-! ### numbers -/
theorem y_rnumber (s : ByteArray) : kt3 f_waferref03_number [vS s] [] = Y_rnumber s := by delta Y_rnumber; rfl
def numV : Option Nat → AV
  | some v => .tuple [vI v, vB true]
  | none => .tuple [vI 0, vB false]
theorem c_rnumber {s : ByteArray} (hs : s.size < BIG) (hd : ∀ c ∈ tx s, digit c = true) : evp f_waferref03_number [vS s] .none [] = some ⟨.ret (numV (numFrom 0 (tx s))), .none, []⟩ := by
  refine kt3_ev (wp_eq2 (y_rnumber ..) ?_)
  refine loop3 (fun x : Nat × Nat => ⟨tm2 29 [(0, vS s), (4, (.val (.int .u64 x.1))), (5, vI x.2)], lm2 29 [], ⟨[], [], .none, 0⟩⟩) (fun x => x.2 ≤ s.size ∧ x.1 ≤ 9223372036854775807 ∧ numFrom x.1 ((tx s).drop x.2) = numFrom 0 (tx s)) (fun x => s.size - x.2) (0, 0) (by kernel_rfl) ⟨Nat.zero_le _, by simp, by simp⟩ ?_
  rintro ⟨v, i⟩ ⟨h1, h2, h3⟩
  simp only at h1 h2 h3
  rw [← h3]
  refine wp_eq2 (X_rnumberR_eq s v i) (wp_if2 (fun h => ?_) (fun h => ?_))
  · have h := of_decide_eq_true h
    obtain ⟨c, r, hdr, hc, hr⟩ := tx_at (s := s) (i := i) (by omega)
    have hdig := digit_toNat.1 (hd c (List.mem_of_mem_drop (by rw [hdr]; simp)))
    have ed : IntKind.u64.wrap (IntKind.u8.wrap ((c.toNat : Int) - 48)) = ((c.toNat - 48 : Nat) : Int) := by rw [IntKind.wrap_u8, wrapU64]; omega
    have ec : IntKind.u64.wrap ((IntKind.u64.wrap (9223372036854775807 - ((c.toNat - 48 : Nat) : Int))).tdiv 10) = (((9223372036854775807 - (c.toNat - 48)) / 10 : Nat) : Int) := by
      have e1 : IntKind.u64.wrap (9223372036854775807 - ((c.toNat - 48 : Nat) : Int)) = ((9223372036854775807 - (c.toNat - 48) : Nat) : Int) := by rw [wrapU64]; omega
      rw [e1]
      rw [Int.tdiv_eq_ediv_of_nonneg (Int.natCast_nonneg _), wrapU64]; omega
    rw [hdr, numFrom]
    refine wp_at hc ?_
    rw [ed, ec]
    refine wp_if2 (fun hv => ?_) (fun hv => ?_)
    · have hv := of_decide_eq_true hv
      rw [if_neg (by omega)]
      exact wp_out ⟨rfl, rfl⟩
    · have hv := of_decide_eq_false hv
      have hle : 10 * v + (c.toNat - 48) ≤ 9223372036854775807 := by omega
      rw [if_pos hle, hr]
      have ev : IntKind.u64.wrap (IntKind.u64.wrap (10 * (v : Int)) + ((c.toNat - 48 : Nat) : Int)) = ((10 * v + (c.toNat - 48) : Nat) : Int) := by rw [wrapU64, wrapU64]; omega
      rw [ev, kw_succ' (by omega)]
      exact wp_done ⟨(10 * v + (c.toNat - 48), i + 1), ⟨⟨by simp only; omega, hle, rfl⟩, by simp only; omega⟩, rfl⟩
  · have h := of_decide_eq_false h
    rw [List.drop_eq_nil_of_le (by rw [tx_len]; omega), numFrom]
    have ev : IntKind.i64.wrap (v : Int) = (v : Int) := by rw [IntKind.wrap_i64]; omega
    rw [ev]
    exact wp_out ⟨rfl, rfl⟩
/-! ### marks -/
theorem y_rmarks1 (s : ByteArray) (a : Nat) : (X_rmark s a).K ⟨tm2 33 [(0, (vS (s))), (1, (vI ((↑a : Int))))], lm2 33 [], ⟨[], [], .none, 0⟩⟩ = Y_rmarks1 s a := by delta Y_rmarks1 X_rmark; rfl
theorem c_rmark {s : ByteArray} {a : Nat} {c : UInt8} {r : T} (hs : s.size < BIG) (hd : (tx s).drop a = c :: r) : evp f_waferref03_mark [vS s, vI a] .none [] = some ⟨.ret (vI (if two (c :: r) then 2 else if marks.contains c then 1 else 0)), .none, []⟩ := by
  obtain ⟨ha, hc, hr⟩ := tx_of hd
  have h2 : ∀ p : ByteArray, (tx p).length = 2 → evp f_waferref03_two [vS s, vI a, vS p] .none [] = some ⟨.ret (vB (pre (tx p) (c :: r))), .none, []⟩ := fun p hp => by rw [c_rtwo hs (Nat.le_of_lt ha) hp, hd]
  refine kt3_ev (wp_eq2 (X_rmark_eq s a) (wp_stage ⟨_, h2 _ rfl, wp_if2 (fun h => ?_) (fun q1 => ⟨_, h2 _ rfl, wp_if2 (fun h => ?_) (fun q2 => ⟨_, h2 _ rfl, wp_if2 (fun h => ?_) (fun q3 => ?_)⟩)⟩)⟩))
  · have : two (c :: r) = true := by rw [two_pre]; simp only [tx] at h; simp [h]
    rw [if_pos this]; exact wp_out ⟨rfl, rfl⟩
  · have : two (c :: r) = true := by rw [two_pre]; simp only [tx] at h; simp [h]
    rw [if_pos this]; exact wp_out ⟨rfl, rfl⟩
  · have : two (c :: r) = true := by rw [two_pre]; simp only [tx] at h; simp [h]
    rw [if_pos this]; exact wp_out ⟨rfl, rfl⟩
  · have : two (c :: r) = false := by rw [two_pre]; simp only [tx] at q1 q2 q3; simp [q1, q2, q3]
    rw [if_neg (by rw [this]; decide)]
    refine wp_done (wp_eq2 (y_rmarks1 s a) (loop3 (fun i : Nat => ⟨tm2 33 [(0, (vS (s))), (1, (vI ((↑a : Int)))), (5, (vS ((⟨#[40, 41, 44, 59, 58, 61, 42, 43, 45, 47, 60, 124, 95, 46]⟩ : ByteArray)))), (6, (vI i))], lm2 33 [], ⟨[], [], .none, 0⟩⟩)
      (fun i => i ≤ 14 ∧ (marks.take i).contains c = false) (fun i => 14 - i) 0 (by kernel_rfl) ⟨Nat.zero_le _, rfl⟩ ?_))
    rintro i ⟨h1, hm⟩
    have hsz : (⟨#[40, 41, 44, 59, 58, 61, 42, 43, 45, 47, 60, 124, 95, 46]⟩ : ByteArray).size = 14 := rfl
    refine wp_eq2 (X_rmarkR_eq s a i) ?_
    rw [hsz]
    refine wp_if2 (fun h => ?_) (fun h => ?_)
    · have h := of_decide_eq_true h
      have hi : i < marks.length := by have : marks.length = 14 := rfl; omega
      have hm1 : (⟨#[40, 41, 44, 59, 58, 61, 42, 43, 45, 47, 60, 124, 95, 46]⟩ : ByteArray)[i]? = some marks[i] := by
        rw [getElem?_pos _ i (by rw [hsz]; omega)]; rfl
      refine wp_at hm1 (wp_at hc ?_)
      rw [ceq]
      refine wp_if2 (fun he => ?_) (fun he => ?_)
      · have he : marks[i] = c := by simpa using he
        rw [if_pos (by rw [← he]; simp)]
        exact wp_out ⟨rfl, rfl⟩
      · have he : ¬ marks[i] = c := by simpa using he
        rw [kw_succ (by omega)]
        refine wp_done ⟨i + 1, ⟨⟨by omega, ?_⟩, by omega⟩, rfl⟩
        rw [List.take_succ_eq_append_getElem hi]
        exact contains_snoc hm he
    · have h := of_decide_eq_false h
      have hm3 : marks.take i = marks := List.take_of_length_le (by have : marks.length = 14 := rfl; omega)
      rw [hm3] at hm
      rw [if_neg (by rw [hm]; decide)]
      exact wp_out ⟨rfl, rfl⟩
end Go.Proofs
end

section
/- TREES, printed by kt.py out of y1.txt -/
open Go Go.Eng
namespace Go.Proofs
set_option linter.unusedVariables false
set_option maxRecDepth 100000
@[irreducible] noncomputable def X_pIs (l : List (List AV)) (z : Int) (e : Int) (a : Int) (d : Int) (w : ByteArray) : KT := kt5 f_parsecore_Reader_Is [AV.ptr 0 0, vS w] [[AV.slice 4 l Own.no, vI z, vI e, vI a, vI d]]
theorem X_pIs_eq (l : List (List AV)) (z : Int) (e : Int) (a : Int) (d : Int) (w : ByteArray) : kt5 f_parsecore_Reader_Is [AV.ptr 0 0, vS w] [[AV.slice 4 l Own.no, vI z, vI e, vI a, vI d]] =
 (.stage
 (.branch (false)
 (.out (.need true
 (.branch (false)
 (.branch (0 == 3)
 (.need true
 (.ret ⟨(.ret (vB ((⟨#[]⟩ : ByteArray).toList == w.toList))), .none, [[(.slice 4 (l) .no), (vI (z)), (vI (e)), (vI (a)), (vI (d))]]⟩))
 (.branch (0 == 6)
 (.need true
 (.ret ⟨(.ret (vB ((⟨#[]⟩ : ByteArray).toList == w.toList))), .none, [[(.slice 4 (l) .no), (vI (z)), (vI (e)), (vI (a)), (vI (d))]]⟩))
 (.need true
 (.ret ⟨(.ret (vB false)), .none, [[(.slice 4 (l) .no), (vI (z)), (vI (e)), (vI (a)), (vI (d))]]⟩))))
 (.need true
 (.ret ⟨(.ret (vB false)), .none, [[(.slice 4 (l) .no), (vI (z)), (vI (e)), (vI (a)), (vI (d))]]⟩)))))
 (.branch (e != 0)
 (.out (.need true
 (.branch (false)
 (.branch (0 == 3)
 (.need true
 (.ret ⟨(.ret (vB ((⟨#[]⟩ : ByteArray).toList == w.toList))), .none, [[(.slice 4 (l) .no), (vI (z)), (vI (e)), (vI (a)), (vI (d))]]⟩))
 (.branch (0 == 6)
 (.need true
 (.ret ⟨(.ret (vB ((⟨#[]⟩ : ByteArray).toList == w.toList))), .none, [[(.slice 4 (l) .no), (vI (z)), (vI (e)), (vI (a)), (vI (d))]]⟩))
 (.need true
 (.ret ⟨(.ret (vB false)), .none, [[(.slice 4 (l) .no), (vI (z)), (vI (e)), (vI (a)), (vI (d))]]⟩))))
 (.need true
 (.ret ⟨(.ret (vB false)), .none, [[(.slice 4 (l) .no), (vI (z)), (vI (e)), (vI (a)), (vI (d))]]⟩)))))
 (.branch ((↑l.length : Int) == 0)
 (.out (.need true
 (.branch (false)
 (.branch (0 == 3)
 (.need true
 (.ret ⟨(.ret (vB ((⟨#[]⟩ : ByteArray).toList == w.toList))), .none, [[(.slice 4 (l) .no), (vI (z)), (vI (e)), (vI (a)), (vI (d))]]⟩))
 (.branch (0 == 6)
 (.need true
 (.ret ⟨(.ret (vB ((⟨#[]⟩ : ByteArray).toList == w.toList))), .none, [[(.slice 4 (l) .no), (vI (z)), (vI (e)), (vI (a)), (vI (d))]]⟩))
 (.need true
 (.ret ⟨(.ret (vB false)), .none, [[(.slice 4 (l) .no), (vI (z)), (vI (e)), (vI (a)), (vI (d))]]⟩))))
 (.need true
 (.ret ⟨(.ret (vB false)), .none, [[(.slice 4 (l) .no), (vI (z)), (vI (e)), (vI (a)), (vI (d))]]⟩)))))
 (.done ⟨tm2 28 [(0, (.ptr 0 0)), (2, (.lp 2 0 0))], lm2 28 [(2, (0, [(vI (0)), (vS ((⟨#[]⟩ : ByteArray))), (vI (0)), (vI (0))]))], ⟨[[(.slice 4 (l) .no), (vI (z)), (vI (e)), (vI (a)), (vI (d))]], [], .none, 1⟩⟩))))
 ((X_pIs l z e a d w).K)) := by kernel_rfl
theorem X_pIss1_eq (l : List (List AV)) (z : Int) (e : Int) (a : Int) (d : Int) (w : ByteArray) : (X_pIs l z e a d w).K ⟨tm2 28 [(0, (.ptr 0 0)), (2, (.lp 2 0 0))], lm2 28 [(2, (0, [(vI (0)), (vS ((⟨#[]⟩ : ByteArray))), (vI (0)), (vI (0))]))], ⟨[[(.slice 4 (l) .no), (vI (z)), (vI (e)), (vI (a)), (vI (d))]], [], .none, 1⟩⟩ =
 (.exI fun i =>
 (.exS fun s =>
 (.exI fun i1 =>
 (.exI fun i2 =>
 (.row (l) (0) [(vI (i)), (vS (s)), (vI (i1)), (vI (i2))]
 (.need true
 (.branch (true)
 (.branch (i == 3)
 (.need true
 (.ret ⟨(.ret (vB (s.toList == w.toList))), .none, [[(.slice 4 (l) .no), (vI (z)), (vI (e)), (vI (a)), (vI (d))]]⟩))
 (.branch (i == 6)
 (.need true
 (.ret ⟨(.ret (vB (s.toList == w.toList))), .none, [[(.slice 4 (l) .no), (vI (z)), (vI (e)), (vI (a)), (vI (d))]]⟩))
 (.need true
 (.ret ⟨(.ret (vB false)), .none, [[(.slice 4 (l) .no), (vI (z)), (vI (e)), (vI (a)), (vI (d))]]⟩))))
 (.need true
 (.ret ⟨(.ret (vB false)), .none, [[(.slice 4 (l) .no), (vI (z)), (vI (e)), (vI (a)), (vI (d))]]⟩))))))))) := by kernel_rfl
@[irreducible] noncomputable def X_pof (l : List (List AV)) (z : Int) (e : Int) (a : Int) (d : Int) (k : Int) : KT := kt5 f_parsecore_Reader_of [AV.ptr 0 0, vI k] [[AV.slice 4 l Own.no, vI z, vI e, vI a, vI d]]
theorem X_pof_eq (l : List (List AV)) (z : Int) (e : Int) (a : Int) (d : Int) (k : Int) : kt5 f_parsecore_Reader_of [AV.ptr 0 0, vI k] [[AV.slice 4 l Own.no, vI z, vI e, vI a, vI d]] =
 (.stage
 (.branch (false)
 (.out (.need true
 (.branch (false)
 (.need true
 (.ret ⟨(.ret (vB (0 == k))), .none, [[(.slice 4 (l) .no), (vI (z)), (vI (e)), (vI (a)), (vI (d))]]⟩))
 (.need true
 (.ret ⟨(.ret (vB false)), .none, [[(.slice 4 (l) .no), (vI (z)), (vI (e)), (vI (a)), (vI (d))]]⟩)))))
 (.branch (e != 0)
 (.out (.need true
 (.branch (false)
 (.need true
 (.ret ⟨(.ret (vB (0 == k))), .none, [[(.slice 4 (l) .no), (vI (z)), (vI (e)), (vI (a)), (vI (d))]]⟩))
 (.need true
 (.ret ⟨(.ret (vB false)), .none, [[(.slice 4 (l) .no), (vI (z)), (vI (e)), (vI (a)), (vI (d))]]⟩)))))
 (.branch ((↑l.length : Int) == 0)
 (.out (.need true
 (.branch (false)
 (.need true
 (.ret ⟨(.ret (vB (0 == k))), .none, [[(.slice 4 (l) .no), (vI (z)), (vI (e)), (vI (a)), (vI (d))]]⟩))
 (.need true
 (.ret ⟨(.ret (vB false)), .none, [[(.slice 4 (l) .no), (vI (z)), (vI (e)), (vI (a)), (vI (d))]]⟩)))))
 (.done ⟨tm2 28 [(0, (.ptr 0 0)), (2, (.lp 2 0 0))], lm2 28 [(2, (0, [(vI (0)), (vS ((⟨#[]⟩ : ByteArray))), (vI (0)), (vI (0))]))], ⟨[[(.slice 4 (l) .no), (vI (z)), (vI (e)), (vI (a)), (vI (d))]], [], .none, 1⟩⟩))))
 ((X_pof l z e a d k).K)) := by kernel_rfl
theorem X_pofs1_eq (l : List (List AV)) (z : Int) (e : Int) (a : Int) (d : Int) (k : Int) : (X_pof l z e a d k).K ⟨tm2 28 [(0, (.ptr 0 0)), (2, (.lp 2 0 0))], lm2 28 [(2, (0, [(vI (0)), (vS ((⟨#[]⟩ : ByteArray))), (vI (0)), (vI (0))]))], ⟨[[(.slice 4 (l) .no), (vI (z)), (vI (e)), (vI (a)), (vI (d))]], [], .none, 1⟩⟩ =
 (.exI fun i =>
 (.exS fun s =>
 (.exI fun i1 =>
 (.exI fun i2 =>
 (.row (l) (0) [(vI (i)), (vS (s)), (vI (i1)), (vI (i2))]
 (.need true
 (.branch (true)
 (.need true
 (.ret ⟨(.ret (vB (i == k))), .none, [[(.slice 4 (l) .no), (vI (z)), (vI (e)), (vI (a)), (vI (d))]]⟩))
 (.need true
 (.ret ⟨(.ret (vB false)), .none, [[(.slice 4 (l) .no), (vI (z)), (vI (e)), (vI (a)), (vI (d))]]⟩))))))))) := by kernel_rfl
theorem X_pTake_eq (l : List (List AV)) (z : Int) (e : Int) (a : Int) (d : Int) (w : ByteArray) : kt5 f_parsecore_Reader_Take [AV.ptr 0 0, vS w] [[AV.slice 4 l Own.no, vI z, vI e, vI a, vI d]] =
 (.exB fun b =>
 (.call f_parsecore_Reader_Is [(.ptr 0 0), (vS (w))] .none [[(.slice 4 (l) .no), (vI (z)), (vI (e)), (vI (a)), (vI (d))]] ⟨(.ret (vB (b))), .none, [[(.slice 4 (l) .no), (vI (z)), (vI (e)), (vI (a)), (vI (d))]]⟩
 (.branch (!b)
 (.need true
 (.ret ⟨(.ret (vB false)), .none, [[(.slice 4 (l) .no), (vI (z)), (vI (e)), (vI (a)), (vI (d))]]⟩))
 (.need (decide ((l = [] ∨ (fun x => x.size) Pg.types[y_lex_Token] = 4) ∧ (0 : Int) ≤ 1 ∧ 1 ≤ (↑l.length : Int) ∧ (↑l.length : Int) ≤ (↑l.length : Int)))
 (.need true
 (.ret ⟨(.ret (vB true)), .none, [[(.slice 4 (List.drop (Int.toNat 1) l) .no), (vI (z)), (vI (e)), (vI (a)), (vI (d))]]⟩)))))) := by kernel_rfl
@[irreducible] noncomputable def X_pNeed (l : List (List AV)) (z : Int) (d : Int) (w : ByteArray) : KT := kt5 f_parsecore_Reader_Need [AV.ptr 0 0, vS w] [[AV.slice 4 l Own.no, vI z, vI 0, vI 0, vI d]]
theorem X_pNeed_eq (l : List (List AV)) (z : Int) (d : Int) (w : ByteArray) : kt5 f_parsecore_Reader_Need [AV.ptr 0 0, vS w] [[AV.slice 4 l Own.no, vI z, vI 0, vI 0, vI d]] =
 (.stage
 (.branch (false)
 (.branch (!false)
 (.branch (decide (d > 0))
 (.out (.need (lowss 1 (l))
 (.need true
 (.ret ⟨(.panic (.iface y_parsecore_failure (.agg []))), .none, [[(.slice 4 (l) .no), (vI (z)), (vI (0)), (vI (0)), (vI (d))]]⟩))))
 (.out (.need (lowss 1 (l))
 (.need true
 (.ret ⟨(.ret (.tuple [])), .none, [[(.slice 4 (l) .no), (vI (z)), (vI (0)), (vI (0)), (vI (d))]]⟩)))))
 (.out (.need (lowss 1 (l))
 (.need true
 (.ret ⟨(.ret (.tuple [])), .none, [[(.slice 4 (l) .no), (vI (z)), (vI (0)), (vI (0)), (vI (d))]]⟩)))))
 (.branch (0 != 0)
 (.branch (!false)
 (.branch (decide (d > 0))
 (.out (.need (lowss 1 (l))
 (.need true
 (.ret ⟨(.panic (.iface y_parsecore_failure (.agg []))), .none, [[(.slice 4 (l) .no), (vI (z)), (vI (0)), (vI (0)), (vI (d))]]⟩))))
 (.out (.need (lowss 1 (l))
 (.need true
 (.ret ⟨(.ret (.tuple [])), .none, [[(.slice 4 (l) .no), (vI (z)), (vI (0)), (vI (0)), (vI (d))]]⟩)))))
 (.out (.need (lowss 1 (l))
 (.need true
 (.ret ⟨(.ret (.tuple [])), .none, [[(.slice 4 (l) .no), (vI (z)), (vI (0)), (vI (0)), (vI (d))]]⟩)))))
 (.done ⟨tm2 37 [(1, (.func (.func f_parsecore_Reader_Need_1) [] [(.ref [(vS (w))])])), (2, (.ref [(.ptr 0 0)])), (4, (.ptr 1 0))], lm2 37 [], ⟨[[(.slice 4 (l) .no), (vI (z)), (vI (0)), (vI (0)), (vI (d))], [(vB false)]], [], .none, 1⟩⟩)))
 ((X_pNeed l z d w).K)) := by kernel_rfl
theorem X_pNeeds1_eq (l : List (List AV)) (z : Int) (d : Int) (w : ByteArray) : (X_pNeed l z d w).K ⟨tm2 37 [(1, (.func (.func f_parsecore_Reader_Need_1) [] [(.ref [(vS (w))])])), (2, (.ref [(.ptr 0 0)])), (4, (.ptr 1 0))], lm2 37 [], ⟨[[(.slice 4 (l) .no), (vI (z)), (vI (0)), (vI (0)), (vI (d))], [(vB false)]], [], .none, 1⟩⟩ =
 (.exB fun b =>
 (.exR fun l1 =>
 (.exI fun i =>
 (.exI fun i1 =>
 (.exI fun i2 =>
 (.exI fun i3 =>
 (.exB fun b1 =>
 (.call f_parsecore_Reader_Take [(.ptr 0 0), (vS (w))] .none [[(.slice 4 (l) .no), (vI (z)), (vI (0)), (vI (0)), (vI (IntKind.i64.wrap (d + 1)))], [(vB false)]] ⟨(.ret (vB (b))), .none, [[(.slice 4 (l1) .no), (vI (i)), (vI (i1)), (vI (i2)), (vI (i3))], [(vB (b1))]]⟩
 (.branch (!b)
 (.branch ((↑l1.length : Int) == 0)
 (.need true
 (.need true
 (.need true
 (.branch (false)
 (.need (lowss 1 (l1))
 (.need true
 (.ret ⟨(.ret (.tuple [])), .none, [[(.slice 4 (l1) .no), (vI (i)), (vI (11)), (vI (i)), (vI (IntKind.i64.wrap (i3 - 1)))]]⟩)))
 (.branch (true)
 (.branch (decide (IntKind.i64.wrap (i3 - 1) > 0))
 (.need (lowss 1 (l1))
 (.need true
 (.ret ⟨(.panic (.iface y_parsecore_failure (.agg []))), .none, [[(.slice 4 (l1) .no), (vI (i)), (vI (11)), (vI (i)), (vI (IntKind.i64.wrap (i3 - 1)))]]⟩)))
 (.need (lowss 1 (l1))
 (.need true
 (.ret ⟨(.ret (.tuple [])), .none, [[(.slice 4 (l1) .no), (vI (i)), (vI (11)), (vI (i)), (vI (IntKind.i64.wrap (i3 - 1)))]]⟩))))
 (.need (lowss 1 (l1))
 (.need true
 (.ret ⟨(.panic (.iface y_parsecore_failure (.agg []))), .none, [[(.slice 4 (l1) .no), (vI (i)), (vI (11)), (vI (i)), (vI (IntKind.i64.wrap (i3 - 1)))]]⟩))))))))
 (.exI fun i4 =>
 (.exS fun s =>
 (.exI fun i5 =>
 (.exI fun i6 =>
 (.row (l1) (0) [(vI (i4)), (vS (s)), (vI (i5)), (vI (i6))]
 (.need true
 (.need true
 (.need true
 (.branch (false)
 (.need (lowss 1 (l1))
 (.need true
 (.ret ⟨(.ret (.tuple [])), .none, [[(.slice 4 (l1) .no), (vI (i)), (vI (11)), (vI (i6)), (vI (IntKind.i64.wrap (i3 - 1)))]]⟩)))
 (.branch (true)
 (.branch (decide (IntKind.i64.wrap (i3 - 1) > 0))
 (.need (lowss 1 (l1))
 (.need true
 (.ret ⟨(.panic (.iface y_parsecore_failure (.agg []))), .none, [[(.slice 4 (l1) .no), (vI (i)), (vI (11)), (vI (i6)), (vI (IntKind.i64.wrap (i3 - 1)))]]⟩)))
 (.need (lowss 1 (l1))
 (.need true
 (.ret ⟨(.ret (.tuple [])), .none, [[(.slice 4 (l1) .no), (vI (i)), (vI (11)), (vI (i6)), (vI (IntKind.i64.wrap (i3 - 1)))]]⟩))))
 (.need (lowss 1 (l1))
 (.need true
 (.ret ⟨(.panic (.iface y_parsecore_failure (.agg []))), .none, [[(.slice 4 (l1) .no), (vI (i)), (vI (11)), (vI (i6)), (vI (IntKind.i64.wrap (i3 - 1)))]]⟩))))))))))))))
 (.need true
 (.branch (true)
 (.need (lowss 1 (l1))
 (.need true
 (.ret ⟨(.ret (.tuple [])), .none, [[(.slice 4 (l1) .no), (vI (i)), (vI (i1)), (vI (i2)), (vI (IntKind.i64.wrap (i3 - 1)))]]⟩)))
 (.branch (false)
 (.branch (decide (IntKind.i64.wrap (i3 - 1) > 0))
 (.need (lowss 1 (l1))
 (.need true
 (.ret ⟨(.panic (.iface y_parsecore_failure (.agg []))), .none, [[(.slice 4 (l1) .no), (vI (i)), (vI (i1)), (vI (i2)), (vI (IntKind.i64.wrap (i3 - 1)))]]⟩)))
 (.need (lowss 1 (l1))
 (.need true
 (.ret ⟨(.ret (.tuple [])), .none, [[(.slice 4 (l1) .no), (vI (i)), (vI (i1)), (vI (i2)), (vI (IntKind.i64.wrap (i3 - 1)))]]⟩))))
 .fail)))))))))))) := by kernel_rfl
@[irreducible] noncomputable def X_ptaken (l : List (List AV)) (z : Int) (d : Int) (k : Int) : KT := kt5 f_parsecore_Reader_taken [AV.ptr 0 0, vI k] [[AV.slice 4 l Own.no, vI z, vI 0, vI 0, vI d]]
theorem X_ptaken_eq (l : List (List AV)) (z : Int) (d : Int) (k : Int) : kt5 f_parsecore_Reader_taken [AV.ptr 0 0, vI k] [[AV.slice 4 l Own.no, vI z, vI 0, vI 0, vI d]] =
 (.stage
 (.branch (false)
 (.branch (!false)
 (.branch (decide (d > 0))
 (.out (.need (lowss 1 (l))
 (.need true
 (.ret ⟨(.panic (.iface y_parsecore_failure (.agg []))), .none, [[(.slice 4 (l) .no), (vI (z)), (vI (0)), (vI (0)), (vI (d))]]⟩))))
 (.out (.need (lowss 1 (l))
 (.need true
 (.ret ⟨(.ret (vS ((⟨#[]⟩ : ByteArray)))), .none, [[(.slice 4 (l) .no), (vI (z)), (vI (0)), (vI (0)), (vI (d))]]⟩)))))
 (.out (.need (lowss 1 (l))
 (.need true
 (.ret ⟨(.ret (vS ((⟨#[]⟩ : ByteArray)))), .none, [[(.slice 4 (l) .no), (vI (z)), (vI (0)), (vI (0)), (vI (d))]]⟩)))))
 (.branch (0 != 0)
 (.branch (!false)
 (.branch (decide (d > 0))
 (.out (.need (lowss 1 (l))
 (.need true
 (.ret ⟨(.panic (.iface y_parsecore_failure (.agg []))), .none, [[(.slice 4 (l) .no), (vI (z)), (vI (0)), (vI (0)), (vI (d))]]⟩))))
 (.out (.need (lowss 1 (l))
 (.need true
 (.ret ⟨(.ret (vS ((⟨#[]⟩ : ByteArray)))), .none, [[(.slice 4 (l) .no), (vI (z)), (vI (0)), (vI (0)), (vI (d))]]⟩)))))
 (.out (.need (lowss 1 (l))
 (.need true
 (.ret ⟨(.ret (vS ((⟨#[]⟩ : ByteArray)))), .none, [[(.slice 4 (l) .no), (vI (z)), (vI (0)), (vI (0)), (vI (d))]]⟩)))))
 (.done ⟨tm2 37 [(1, (.func (.func f_parsecore_Reader_taken_1) [] [(.ref [(vI (k))])])), (2, (.ref [(.ptr 0 0)])), (4, (.ptr 1 0))], lm2 37 [], ⟨[[(.slice 4 (l) .no), (vI (z)), (vI (0)), (vI (0)), (vI (d))], [(vS ((⟨#[]⟩ : ByteArray)))]], [], .none, 1⟩⟩)))
 ((X_ptaken l z d k).K)) := by kernel_rfl
@[irreducible] noncomputable def X_ptakens1 (l : List (List AV)) (z : Int) (d : Int) (k : Int) : KT := (X_ptaken l z d k).K ⟨tm2 37 [(1, (.func (.func f_parsecore_Reader_taken_1) [] [(.ref [(vI (k))])])), (2, (.ref [(.ptr 0 0)])), (4, (.ptr 1 0))], lm2 37 [], ⟨[[(.slice 4 (l) .no), (vI (z)), (vI (0)), (vI (0)), (vI (d))], [(vS ((⟨#[]⟩ : ByteArray)))]], [], .none, 1⟩⟩
theorem X_ptakens1_eq (l : List (List AV)) (z : Int) (d : Int) (k : Int) : (X_ptaken l z d k).K ⟨tm2 37 [(1, (.func (.func f_parsecore_Reader_taken_1) [] [(.ref [(vI (k))])])), (2, (.ref [(.ptr 0 0)])), (4, (.ptr 1 0))], lm2 37 [], ⟨[[(.slice 4 (l) .no), (vI (z)), (vI (0)), (vI (0)), (vI (d))], [(vS ((⟨#[]⟩ : ByteArray)))]], [], .none, 1⟩⟩ =
 (.stage
 (.exB fun b =>
 (.call f_parsecore_Reader_of [(.ptr 0 0), (vI (k))] .none [[(.slice 4 (l) .no), (vI (z)), (vI (0)), (vI (0)), (vI (IntKind.i64.wrap (d + 1)))], [(vS ((⟨#[]⟩ : ByteArray)))]] ⟨(.ret (vB (b))), .none, [[(.slice 4 (l) .no), (vI (z)), (vI (0)), (vI (0)), (vI (IntKind.i64.wrap (d + 1)))], [(vS ((⟨#[]⟩ : ByteArray)))]]⟩
 (.branch (!b)
 (.branch ((↑l.length : Int) == 0)
 (.need true
 (.need true
 (.out (.need true
 (.branch (false)
 (.need (lowss 1 (l))
 (.need true
 (.ret ⟨(.ret (vS ((⟨#[]⟩ : ByteArray)))), .none, [[(.slice 4 (l) .no), (vI (z)), (vI (11)), (vI (z)), (vI (IntKind.i64.wrap (IntKind.i64.wrap (d + 1) - 1)))]]⟩)))
 (.branch (true)
 (.branch (decide (IntKind.i64.wrap (IntKind.i64.wrap (d + 1) - 1) > 0))
 (.need (lowss 1 (l))
 (.need true
 (.ret ⟨(.panic (.iface y_parsecore_failure (.agg []))), .none, [[(.slice 4 (l) .no), (vI (z)), (vI (11)), (vI (z)), (vI (IntKind.i64.wrap (IntKind.i64.wrap (d + 1) - 1)))]]⟩)))
 (.need (lowss 1 (l))
 (.need true
 (.ret ⟨(.ret (vS ((⟨#[]⟩ : ByteArray)))), .none, [[(.slice 4 (l) .no), (vI (z)), (vI (11)), (vI (z)), (vI (IntKind.i64.wrap (IntKind.i64.wrap (d + 1) - 1)))]]⟩))))
 (.need (lowss 1 (l))
 (.need true
 (.ret ⟨(.panic (.iface y_parsecore_failure (.agg []))), .none, [[(.slice 4 (l) .no), (vI (z)), (vI (11)), (vI (z)), (vI (IntKind.i64.wrap (IntKind.i64.wrap (d + 1) - 1)))]]⟩)))))))))
 (.exI fun i =>
 (.exS fun s =>
 (.exI fun i1 =>
 (.exI fun i2 =>
 (.row (l) (0) [(vI (i)), (vS (s)), (vI (i1)), (vI (i2))]
 (.need true
 (.need true
 (.out (.need true
 (.branch (false)
 (.need (lowss 1 (l))
 (.need true
 (.ret ⟨(.ret (vS ((⟨#[]⟩ : ByteArray)))), .none, [[(.slice 4 (l) .no), (vI (z)), (vI (11)), (vI (i2)), (vI (IntKind.i64.wrap (IntKind.i64.wrap (d + 1) - 1)))]]⟩)))
 (.branch (true)
 (.branch (decide (IntKind.i64.wrap (IntKind.i64.wrap (d + 1) - 1) > 0))
 (.need (lowss 1 (l))
 (.need true
 (.ret ⟨(.panic (.iface y_parsecore_failure (.agg []))), .none, [[(.slice 4 (l) .no), (vI (z)), (vI (11)), (vI (i2)), (vI (IntKind.i64.wrap (IntKind.i64.wrap (d + 1) - 1)))]]⟩)))
 (.need (lowss 1 (l))
 (.need true
 (.ret ⟨(.ret (vS ((⟨#[]⟩ : ByteArray)))), .none, [[(.slice 4 (l) .no), (vI (z)), (vI (11)), (vI (i2)), (vI (IntKind.i64.wrap (IntKind.i64.wrap (d + 1) - 1)))]]⟩))))
 (.need (lowss 1 (l))
 (.need true
 (.ret ⟨(.panic (.iface y_parsecore_failure (.agg []))), .none, [[(.slice 4 (l) .no), (vI (z)), (vI (11)), (vI (i2)), (vI (IntKind.i64.wrap (IntKind.i64.wrap (d + 1) - 1)))]]⟩)))))))))))))))
 (.done ⟨tm2 29 [(0, (.ptr 0 0))], lm2 29 [], ⟨[[(.slice 4 (l) .no), (vI (z)), (vI (0)), (vI (0)), (vI (IntKind.i64.wrap (d + 1)))], [(vS ((⟨#[]⟩ : ByteArray)))]], [], .none, 2⟩⟩))))
 ((X_ptakens1 l z d k).K)) := by kernel_rfl
theorem X_ptakens2_eq (l : List (List AV)) (z : Int) (d : Int) (k : Int) : (X_ptakens1 l z d k).K ⟨tm2 29 [(0, (.ptr 0 0))], lm2 29 [], ⟨[[(.slice 4 (l) .no), (vI (z)), (vI (0)), (vI (0)), (vI (IntKind.i64.wrap (d + 1)))], [(vS ((⟨#[]⟩ : ByteArray)))]], [], .none, 2⟩⟩ =
 (.exI fun i =>
 (.exS fun s =>
 (.exI fun i1 =>
 (.exI fun i2 =>
 (.row (l) (0) [(vI (i)), (vS (s)), (vI (i1)), (vI (i2))]
 (.need (decide ((l = [] ∨ (fun x => x.size) Pg.types[y_lex_Token] = 4) ∧ (0 : Int) ≤ 1 ∧ 1 ≤ (↑l.length : Int) ∧ (↑l.length : Int) ≤ (↑l.length : Int)))
 (.need true
 (.branch (true)
 (.need (lowss 1 (List.drop (Int.toNat 1) l))
 (.need true
 (.ret ⟨(.ret (vS (s))), .none, [[(.slice 4 (List.drop (Int.toNat 1) l) .no), (vI (z)), (vI (0)), (vI (0)), (vI (IntKind.i64.wrap (IntKind.i64.wrap (d + 1) - 1)))]]⟩)))
 (.branch (false)
 (.branch (decide (IntKind.i64.wrap (IntKind.i64.wrap (d + 1) - 1) > 0))
 (.need (lowss 1 (List.drop (Int.toNat 1) l))
 (.need true
 (.ret ⟨(.panic (.iface y_parsecore_failure (.agg []))), .none, [[(.slice 4 (List.drop (Int.toNat 1) l) .no), (vI (z)), (vI (0)), (vI (0)), (vI (IntKind.i64.wrap (IntKind.i64.wrap (d + 1) - 1)))]]⟩)))
 (.need (lowss 1 (List.drop (Int.toNat 1) l))
 (.need true
 (.ret ⟨(.ret (vS ((⟨#[]⟩ : ByteArray)))), .none, [[(.slice 4 (List.drop (Int.toNat 1) l) .no), (vI (z)), (vI (0)), (vI (0)), (vI (IntKind.i64.wrap (IntKind.i64.wrap (d + 1) - 1)))]]⟩))))
 .fail))))))))) := by kernel_rfl
@[irreducible] noncomputable def X_pTy (l : List (List AV)) (z : Int) (d : Int) : KT := kt5 f_parsecore_Reader_Ty [AV.ptr 0 0] [[AV.slice 4 l Own.no, vI z, vI 0, vI 0, vI d]]
theorem X_pTy_eq (l : List (List AV)) (z : Int) (d : Int) : kt5 f_parsecore_Reader_Ty [AV.ptr 0 0] [[AV.slice 4 l Own.no, vI z, vI 0, vI 0, vI d]] =
 (.stage
 (.branch (false)
 (.branch (!false)
 (.branch (decide (d > 0))
 (.out (.need (lowss 1 (l))
 (.need true
 (.ret ⟨(.panic (.iface y_parsecore_failure (.agg []))), .none, [[(.slice 4 (l) .no), (vI (z)), (vI (0)), (vI (0)), (vI (d))]]⟩))))
 (.out (.need (lowss 1 [])
 (.need (lowss 1 [])
 (.need (lowss 1 (l))
 (.need true
 (.ret ⟨(.ret (.agg [(vI (0)), (vS ((⟨#[]⟩ : ByteArray))), (.slice 1 [] .no), (.slice 4 [] .no)])), .none, [[(.slice 4 (l) .no), (vI (z)), (vI (0)), (vI (0)), (vI (d))]]⟩)))))))
 (.out (.need (lowss 1 [])
 (.need (lowss 1 [])
 (.need (lowss 1 (l))
 (.need true
 (.ret ⟨(.ret (.agg [(vI (0)), (vS ((⟨#[]⟩ : ByteArray))), (.slice 1 [] .no), (.slice 4 [] .no)])), .none, [[(.slice 4 (l) .no), (vI (z)), (vI (0)), (vI (0)), (vI (d))]]⟩)))))))
 (.branch (0 != 0)
 (.branch (!false)
 (.branch (decide (d > 0))
 (.out (.need (lowss 1 (l))
 (.need true
 (.ret ⟨(.panic (.iface y_parsecore_failure (.agg []))), .none, [[(.slice 4 (l) .no), (vI (z)), (vI (0)), (vI (0)), (vI (d))]]⟩))))
 (.out (.need (lowss 1 [])
 (.need (lowss 1 [])
 (.need (lowss 1 (l))
 (.need true
 (.ret ⟨(.ret (.agg [(vI (0)), (vS ((⟨#[]⟩ : ByteArray))), (.slice 1 [] .no), (.slice 4 [] .no)])), .none, [[(.slice 4 (l) .no), (vI (z)), (vI (0)), (vI (0)), (vI (d))]]⟩)))))))
 (.out (.need (lowss 1 [])
 (.need (lowss 1 [])
 (.need (lowss 1 (l))
 (.need true
 (.ret ⟨(.ret (.agg [(vI (0)), (vS ((⟨#[]⟩ : ByteArray))), (.slice 1 [] .no), (.slice 4 [] .no)])), .none, [[(.slice 4 (l) .no), (vI (z)), (vI (0)), (vI (0)), (vI (d))]]⟩)))))))
 (.done ⟨tm2 37 [(1, (.func (.func f_parsecore_Reader_ty) [] [])), (2, (.ref [(.ptr 0 0)])), (4, (.ptr 1 0))], lm2 37 [], ⟨[[(.slice 4 (l) .no), (vI (z)), (vI (0)), (vI (0)), (vI (d))], [(vI (0)), (vS ((⟨#[]⟩ : ByteArray))), (.slice 0 [] .full), (.slice 0 [] .full)]], [], .none, 1⟩⟩)))
 ((X_pTy l z d).K)) := by kernel_rfl
theorem X_pTys1_eq (l : List (List AV)) (z : Int) (d : Int) : (X_pTy l z d).K ⟨tm2 37 [(1, (.func (.func f_parsecore_Reader_ty) [] [])), (2, (.ref [(.ptr 0 0)])), (4, (.ptr 1 0))], lm2 37 [], ⟨[[(.slice 4 (l) .no), (vI (z)), (vI (0)), (vI (0)), (vI (d))], [(vI (0)), (vS ((⟨#[]⟩ : ByteArray))), (.slice 0 [] .full), (.slice 0 [] .full)]], [], .none, 1⟩⟩ =
 (.alt
 (.exI fun i =>
 (.exS fun s =>
 (.exR fun l1 =>
 (.exR fun l2 =>
 (.exR fun l3 =>
 (.exI fun i1 =>
 (.exI fun i2 =>
 (.exI fun i3 =>
 (.exI fun i4 =>
 (.exI fun i5 =>
 (.exS fun s1 =>
 (.exR fun l4 =>
 (.exR fun l5 =>
 (.call f_parsecore_Reader_ty [(.ptr 0 0)] .none [[(.slice 4 (l) .no), (vI (z)), (vI (0)), (vI (0)), (vI (IntKind.i64.wrap (d + 1)))], [(vI (0)), (vS ((⟨#[]⟩ : ByteArray))), (.slice 0 [] .full), (.slice 0 [] .full)]] ⟨(.ret (.agg [(vI (i)), (vS (s)), (.slice 1 (l1) .no), (.slice 4 (l2) .no)])), .none, [[(.slice 4 (l3) .no), (vI (i1)), (vI (i2)), (vI (i3)), (vI (i4))], [(vI (i5)), (vS (s1)), (.slice 0 (l4) .full), (.slice 0 (l5) .full)]]⟩
 (.branch (true)
 (.need (lowss 1 (l1))
 (.need (lowss 1 (l2))
 (.need (lowss 1 (l3))
 (.need true
 (.ret ⟨(.ret (.agg [(vI (i)), (vS (s)), (.slice 1 (l1) .no), (.slice 4 (l2) .no)])), .none, [[(.slice 4 (l3) .no), (vI (i1)), (vI (i2)), (vI (i3)), (vI (IntKind.i64.wrap (i4 - 1)))]]⟩)))))
 (.branch (false)
 (.branch (decide (IntKind.i64.wrap (i4 - 1) > 0))
 (.need (lowss 1 (l3))
 (.need true
 (.ret ⟨(.panic (.iface y_parsecore_failure (.agg []))), .none, [[(.slice 4 (l3) .no), (vI (i1)), (vI (i2)), (vI (i3)), (vI (IntKind.i64.wrap (i4 - 1)))]]⟩)))
 (.need (lowss 1 [])
 (.need (lowss 1 [])
 (.need (lowss 1 (l3))
 (.need true
 (.ret ⟨(.ret (.agg [(vI (0)), (vS ((⟨#[]⟩ : ByteArray))), (.slice 1 [] .no), (.slice 4 [] .no)])), .none, [[(.slice 4 (l3) .no), (vI (i1)), (vI (i2)), (vI (i3)), (vI (IntKind.i64.wrap (i4 - 1)))]]⟩))))))
 .fail))))))))))))))))
 (.exR fun l1 =>
 (.exI fun i =>
 (.exI fun i1 =>
 (.exI fun i2 =>
 (.exI fun i3 =>
 (.exI fun i4 =>
 (.exS fun s =>
 (.exR fun l2 =>
 (.exR fun l3 =>
 (.call f_parsecore_Reader_ty [(.ptr 0 0)] .none [[(.slice 4 (l) .no), (vI (z)), (vI (0)), (vI (0)), (vI (IntKind.i64.wrap (d + 1)))], [(vI (0)), (vS ((⟨#[]⟩ : ByteArray))), (.slice 0 [] .full), (.slice 0 [] .full)]] ⟨(.panic (.iface y_parsecore_failure (.agg []))), .none, [[(.slice 4 (l1) .no), (vI (i)), (vI (i1)), (vI (i2)), (vI (i3))], [(vI (i4)), (vS (s)), (.slice 0 (l2) .full), (.slice 0 (l3) .full)]]⟩
 (.branch (false)
 (.need (lowss 1 (l2))
 (.need (lowss 1 (l3))
 (.need (lowss 1 (l1))
 (.need true
 (.ret ⟨(.ret (.agg [(vI (i4)), (vS (s)), (normS Pg (y_s_string : TypeId) (AV.slice 0 l2 Own.full).dis.dis.dis), (normS Pg (y_s_api_Ty : TypeId) (AV.slice 0 l3 Own.full).dis.dis.dis)])), .none, [[(.slice 4 (l1) .no), (vI (i)), (vI (i1)), (vI (i2)), (vI (IntKind.i64.wrap (i3 - 1)))]]⟩)))))
 (.branch (true)
 (.branch (decide (IntKind.i64.wrap (i3 - 1) > 0))
 (.need (lowss 1 (l1))
 (.need true
 (.ret ⟨(.panic (.iface y_parsecore_failure (.agg []))), .none, [[(.slice 4 (l1) .no), (vI (i)), (vI (i1)), (vI (i2)), (vI (IntKind.i64.wrap (i3 - 1)))]]⟩)))
 (.need (lowss 1 [])
 (.need (lowss 1 [])
 (.need (lowss 1 (l1))
 (.need true
 (.ret ⟨(.ret (.agg [(vI (0)), (vS ((⟨#[]⟩ : ByteArray))), (.slice 1 [] .no), (.slice 4 [] .no)])), .none, [[(.slice 4 (l1) .no), (vI (i)), (vI (i1)), (vI (i2)), (vI (IntKind.i64.wrap (i3 - 1)))]]⟩))))))
 (.need (lowss 1 (l1))
 (.need true
 (.ret ⟨(.panic (.iface y_parsecore_failure (.agg []))), .none, [[(.slice 4 (l1) .no), (vI (i)), (vI (i1)), (vI (i2)), (vI (IntKind.i64.wrap (i3 - 1)))]]⟩)))))))))))))))) := by kernel_rfl
@[irreducible] noncomputable def X_ppath (l : List (List AV)) (z : Int) (d : Int) (b : Bool) (b1 : Bool) : KT := kt5 f_parsecore_Reader_path [AV.ptr 0 0, vB b, vB b1] [[AV.slice 4 l Own.no, vI z, vI 0, vI 0, vI d]]
theorem X_ppath_eq (l : List (List AV)) (z : Int) (d : Int) (b : Bool) (b1 : Bool) : kt5 f_parsecore_Reader_path [AV.ptr 0 0, vB b, vB b1] [[AV.slice 4 l Own.no, vI z, vI 0, vI 0, vI d]] =
 (.branch ((↑l.length : Int) == 0)
 (.need true
 ((X_ppath l z d b b1).T.T) /- LOOP f_parsecore_Reader_path block 0 at ⟨tm2 66 [(0, (.ptr 0 0)), (1, (vB (b))), (2, (vB (b1))), (8, (vI (z))), (9, (.slice 0 [] .full))], lm2 66 [], ⟨[[(.slice 4 (l) .no), (vI (z)), (vI (0)), (vI (0)), (vI (d))]], [], .none, 1⟩⟩ -/)
 (.exI fun i =>
 (.exS fun s =>
 (.exI fun i1 =>
 (.exI fun i2 =>
 (.row (l) (0) [(vI (i)), (vS (s)), (vI (i1)), (vI (i2))]
 (.need true
 ((((((X_ppath l z d b b1).F.I i).S s).I i1).I i2).T.T) /- LOOP f_parsecore_Reader_path block 0 at ⟨tm2 66 [(0, (.ptr 0 0)), (1, (vB (b))), (2, (vB (b1))), (8, (vI (i2))), (9, (.slice 0 [] .full))], lm2 66 [], ⟨[[(.slice 4 (l) .no), (vI (z)), (vI (0)), (vI (0)), (vI (d))]], [], .none, 1⟩⟩ -/))))))) := by kernel_rfl
-- LOOP (((((X_ppath l z d b b1).F.I i).S s).I i1).I i2).T.T
-- LOOP (X_ppath l z d b b1).T.T
end Go.Proofs
end

section
/- TREES, printed by kt.py out of y2.txt -/
open Go Go.Eng
namespace Go.Proofs
set_option linter.unusedVariables false
set_option maxRecDepth 100000
@[irreducible] noncomputable def Y_ppath1 (l : List (List AV)) (z d : Int) (b b1 : Bool) : KT := (kt5 f_parsecore_Reader_path [.ptr 0 0, vB b, vB b1] [[.slice 4 l .no, vI z, vI 0, vI 0, vI d]]).T.T
@[irreducible] noncomputable def Y_ppath2 (l : List (List AV)) (z d : Int) (b b1 : Bool) (i : Int) (s : ByteArray) (i1 i2 : Int) : KT := (((((kt5 f_parsecore_Reader_path [.ptr 0 0, vB b, vB b1] [[.slice 4 l .no, vI z, vI 0, vI 0, vI d]]).F.I i).S s).I i1).I i2).T.T
@[irreducible] noncomputable def X_ppath1A (l : List (List AV)) (z : Int) (d : Int) (b : Bool) (b1 : Bool) (m : List (List AV)) (a0 : Int) (z' : Int) (e : Int) (a : Int) (d' : Int) : KT := KT.round Pg cfg0 rs0 kc5 (Y_ppath1 l z d b b1) { tmps := tm2 66 [(0, AV.ptr 0 0), (1, vB b), (2, vB b1), (8, vI a0), (9, AV.slice 0 [] Own.full)], lh := lm2 66 [], g := { H := [[AV.slice 4 m Own.no, vI z', vI e, vI a, vI d']], defers := [], rm := RM.none, base := 1 } }
theorem X_ppath1A_eq (l : List (List AV)) (z : Int) (d : Int) (b : Bool) (b1 : Bool) (m : List (List AV)) (a0 : Int) (z' : Int) (e : Int) (a : Int) (d' : Int) : KT.round Pg cfg0 rs0 kc5 (Y_ppath1 l z d b b1) { tmps := tm2 66 [(0, AV.ptr 0 0), (1, vB b), (2, vB b1), (8, vI a0), (9, AV.slice 0 [] Own.full)], lh := lm2 66 [], g := { H := [[AV.slice 4 m Own.no, vI z', vI e, vI a, vI d']], defers := [], rm := RM.none, base := 1 } } =
 (.exB fun b2 =>
 (.call f_parsecore_Reader_of [(.ptr 0 0), (vI (1))] .none [[(.slice 4 (m) .no), (vI (z')), (vI (e)), (vI (a)), (vI (d'))]] ⟨(.ret (vB (b2))), .none, [[(.slice 4 (m) .no), (vI (z')), (vI (e)), (vI (a)), (vI (d'))]]⟩
 (.stage
 (.exB fun b3 =>
 (.call f_parsecore_Reader_of [(.ptr 0 0), (vI (2))] .none [[(.slice 4 (m) .no), (vI (z')), (vI (e)), (vI (a)), (vI (d'))]] ⟨(.ret (vB (b3))), .none, [[(.slice 4 (m) .no), (vI (z')), (vI (e)), (vI (a)), (vI (d'))]]⟩
 (.branch (!b3)
 (.branch (b2)
 (.branch (!b)
 (.branch ((↑m.length : Int) == 0)
 (.need true
 (.need true
 (.out (.out (.need true
 (.ret ⟨(.panic (.iface y_parsecore_failure (.agg []))), .none, [[(.slice 4 (m) .no), (vI (z')), (vI (11)), (vI (z')), (vI (d'))]]⟩))))))
 (.exI fun i =>
 (.exS fun s =>
 (.exI fun i1 =>
 (.exI fun i2 =>
 (.row (m) (0) [(vI (i)), (vS (s)), (vI (i1)), (vI (i2))]
 (.need true
 (.need true
 (.out (.out (.need true
 (.ret ⟨(.panic (.iface y_parsecore_failure (.agg []))), .none, [[(.slice 4 (m) .no), (vI (z')), (vI (11)), (vI (i2)), (vI (d'))]]⟩))))))))))))
 (.done ⟨tm2 66 [(0, (.ptr 0 0)), (1, (vB (b))), (2, (vB (b1))), (8, (vI (a0))), (9, (.slice 0 [] .full)), (10, (vB (b2)))], lm2 66 [], ⟨[[(.slice 4 (m) .no), (vI (z')), (vI (e)), (vI (a)), (vI (d'))]], [], .none, 1⟩⟩))
 (.branch ((↑m.length : Int) == 0)
 (.need true
 (.need true
 (.out (.out (.need true
 (.ret ⟨(.panic (.iface y_parsecore_failure (.agg []))), .none, [[(.slice 4 (m) .no), (vI (z')), (vI (11)), (vI (z')), (vI (d'))]]⟩))))))
 (.exI fun i =>
 (.exS fun s =>
 (.exI fun i1 =>
 (.exI fun i2 =>
 (.row (m) (0) [(vI (i)), (vS (s)), (vI (i1)), (vI (i2))]
 (.need true
 (.need true
 (.out (.out (.need true
 (.ret ⟨(.panic (.iface y_parsecore_failure (.agg []))), .none, [[(.slice 4 (m) .no), (vI (z')), (vI (11)), (vI (i2)), (vI (d'))]]⟩)))))))))))))
 (.done ⟨tm2 66 [(0, (.ptr 0 0)), (1, (vB (b))), (2, (vB (b1))), (8, (vI (a0))), (9, (.slice 0 [] .full)), (10, (vB (b2)))], lm2 66 [], ⟨[[(.slice 4 (m) .no), (vI (z')), (vI (e)), (vI (a)), (vI (d'))]], [], .none, 1⟩⟩))))
 (((X_ppath1A l z d b b1 m a0 z' e a d').B b2).T.K)))) := by kernel_rfl
@[irreducible] noncomputable def X_ppath2A (l : List (List AV)) (z : Int) (d : Int) (b : Bool) (b1 : Bool) (i : Int) (s : ByteArray) (i1 : Int) (i2 : Int) (m : List (List AV)) (a0 : Int) (z' : Int) (e : Int) (a : Int) (d' : Int) : KT := KT.round Pg cfg0 rs0 kc5 (Y_ppath2 l z d b b1 i s i1 i2) { tmps := tm2 66 [(0, AV.ptr 0 0), (1, vB b), (2, vB b1), (8, vI a0), (9, AV.slice 0 [] Own.full)], lh := lm2 66 [], g := { H := [[AV.slice 4 m Own.no, vI z', vI e, vI a, vI d']], defers := [], rm := RM.none, base := 1 } }
theorem X_ppath2A_eq (l : List (List AV)) (z : Int) (d : Int) (b : Bool) (b1 : Bool) (i : Int) (s : ByteArray) (i1 : Int) (i2 : Int) (m : List (List AV)) (a0 : Int) (z' : Int) (e : Int) (a : Int) (d' : Int) : KT.round Pg cfg0 rs0 kc5 (Y_ppath2 l z d b b1 i s i1 i2) { tmps := tm2 66 [(0, AV.ptr 0 0), (1, vB b), (2, vB b1), (8, vI a0), (9, AV.slice 0 [] Own.full)], lh := lm2 66 [], g := { H := [[AV.slice 4 m Own.no, vI z', vI e, vI a, vI d']], defers := [], rm := RM.none, base := 1 } } =
 (.exB fun b2 =>
 (.call f_parsecore_Reader_of [(.ptr 0 0), (vI (1))] .none [[(.slice 4 (m) .no), (vI (z')), (vI (e)), (vI (a)), (vI (d'))]] ⟨(.ret (vB (b2))), .none, [[(.slice 4 (m) .no), (vI (z')), (vI (e)), (vI (a)), (vI (d'))]]⟩
 (.stage
 (.exB fun b3 =>
 (.call f_parsecore_Reader_of [(.ptr 0 0), (vI (2))] .none [[(.slice 4 (m) .no), (vI (z')), (vI (e)), (vI (a)), (vI (d'))]] ⟨(.ret (vB (b3))), .none, [[(.slice 4 (m) .no), (vI (z')), (vI (e)), (vI (a)), (vI (d'))]]⟩
 (.branch (!b3)
 (.branch (b2)
 (.branch (!b)
 (.branch ((↑m.length : Int) == 0)
 (.need true
 (.need true
 (.out (.out (.need true
 (.ret ⟨(.panic (.iface y_parsecore_failure (.agg []))), .none, [[(.slice 4 (m) .no), (vI (z')), (vI (11)), (vI (z')), (vI (d'))]]⟩))))))
 (.exI fun i3 =>
 (.exS fun s1 =>
 (.exI fun i4 =>
 (.exI fun i5 =>
 (.row (m) (0) [(vI (i3)), (vS (s1)), (vI (i4)), (vI (i5))]
 (.need true
 (.need true
 (.out (.out (.need true
 (.ret ⟨(.panic (.iface y_parsecore_failure (.agg []))), .none, [[(.slice 4 (m) .no), (vI (z')), (vI (11)), (vI (i5)), (vI (d'))]]⟩))))))))))))
 (.done ⟨tm2 66 [(0, (.ptr 0 0)), (1, (vB (b))), (2, (vB (b1))), (8, (vI (a0))), (9, (.slice 0 [] .full)), (10, (vB (b2)))], lm2 66 [], ⟨[[(.slice 4 (m) .no), (vI (z')), (vI (e)), (vI (a)), (vI (d'))]], [], .none, 1⟩⟩))
 (.branch ((↑m.length : Int) == 0)
 (.need true
 (.need true
 (.out (.out (.need true
 (.ret ⟨(.panic (.iface y_parsecore_failure (.agg []))), .none, [[(.slice 4 (m) .no), (vI (z')), (vI (11)), (vI (z')), (vI (d'))]]⟩))))))
 (.exI fun i3 =>
 (.exS fun s1 =>
 (.exI fun i4 =>
 (.exI fun i5 =>
 (.row (m) (0) [(vI (i3)), (vS (s1)), (vI (i4)), (vI (i5))]
 (.need true
 (.need true
 (.out (.out (.need true
 (.ret ⟨(.panic (.iface y_parsecore_failure (.agg []))), .none, [[(.slice 4 (m) .no), (vI (z')), (vI (11)), (vI (i5)), (vI (d'))]]⟩)))))))))))))
 (.done ⟨tm2 66 [(0, (.ptr 0 0)), (1, (vB (b))), (2, (vB (b1))), (8, (vI (a0))), (9, (.slice 0 [] .full)), (10, (vB (b2)))], lm2 66 [], ⟨[[(.slice 4 (m) .no), (vI (z')), (vI (e)), (vI (a)), (vI (d'))]], [], .none, 1⟩⟩))))
 (((X_ppath2A l z d b b1 i s i1 i2 m a0 z' e a d').B b2).T.K)))) := by kernel_rfl
@[irreducible] noncomputable def X_ppath2As1 (l : List (List AV)) (z : Int) (d : Int) (b : Bool) (b1 : Bool) (i : Int) (s : ByteArray) (i1 : Int) (i2 : Int) (m : List (List AV)) (a0 : Int) (z' : Int) (e : Int) (a : Int) (d' : Int) (b2 : Bool) : KT := ((X_ppath2A l z d b b1 i s i1 i2 m a0 z' e a d').B b2).T.K ⟨tm2 66 [(0, (.ptr 0 0)), (1, (vB (b))), (2, (vB (b1))), (8, (vI (a0))), (9, (.slice 0 [] .full)), (10, (vB (b2)))], lm2 66 [], ⟨[[(.slice 4 (m) .no), (vI (z')), (vI (e)), (vI (a)), (vI (d'))]], [], .none, 1⟩⟩
theorem X_ppath2As1_eq (l : List (List AV)) (z : Int) (d : Int) (b : Bool) (b1 : Bool) (i : Int) (s : ByteArray) (i1 : Int) (i2 : Int) (m : List (List AV)) (a0 : Int) (z' : Int) (e : Int) (a : Int) (d' : Int) (b2 : Bool) : ((X_ppath2A l z d b b1 i s i1 i2 m a0 z' e a d').B b2).T.K ⟨tm2 66 [(0, (.ptr 0 0)), (1, (vB (b))), (2, (vB (b1))), (8, (vI (a0))), (9, (.slice 0 [] .full)), (10, (vB (b2)))], lm2 66 [], ⟨[[(.slice 4 (m) .no), (vI (z')), (vI (e)), (vI (a)), (vI (d'))]], [], .none, 1⟩⟩ =
 (.exI fun i3 =>
 (.exS fun s1 =>
 (.exI fun i4 =>
 (.exI fun i5 =>
 (.row (m) (0) [(vI (i3)), (vS (s1)), (vI (i4)), (vI (i5))]
 (.need true
 (.need (decide ((m = [] ∨ (fun x => x.size) Pg.types[y_lex_Token] = 4) ∧ (0 : Int) ≤ 1 ∧ 1 ≤ (↑m.length : Int) ∧ (↑m.length : Int) ≤ (↑m.length : Int)))
 (.stage
 (.branch (decide ((↑(List.map (fun x => List.map AV.dis x) [[normS Pg y_string (AV.val (Value.string s1)).dis]]).length : Int) > 8))
 (.need true
 (.out (.out (.need true
 (.ret ⟨(.panic (.iface y_parsecore_failure (.agg []))), .none, [[(.slice 4 (List.drop (Int.toNat 1) m) .no), (vI (z')), (vI (3)), (vI (a0)), (vI (d'))]]⟩)))))
 (.done ⟨tm2 66 [(0, (.ptr 0 0)), (1, (vB (b))), (2, (vB (b1))), (8, (vI (a0))), (9, (.slice 1 [[(vS (s1))]] .yes)), (10, (vB (b2)))], lm2 66 [], ⟨[[(.slice 4 (List.drop (Int.toNat 1) m) .no), (vI (z')), (vI (e)), (vI (a)), (vI (d'))]], [], .none, 1⟩⟩))
 ((((((X_ppath2As1 l z d b b1 i s i1 i2 m a0 z' e a d' b2).I i3).S s1).I i4).I i5).T.T.T.K))))))))) := by kernel_rfl
theorem X_ppath2As2_eq (l : List (List AV)) (z : Int) (d : Int) (b : Bool) (b1 : Bool) (i : Int) (s : ByteArray) (i1 : Int) (i2 : Int) (m : List (List AV)) (a0 : Int) (z' : Int) (e : Int) (a : Int) (d' : Int) (b2 : Bool) (i3 : Int) (s1 : ByteArray) (i4 : Int) (i5 : Int) : (((((X_ppath2As1 l z d b b1 i s i1 i2 m a0 z' e a d' b2).I i3).S s1).I i4).I i5).T.T.T.K ⟨tm2 66 [(0, (.ptr 0 0)), (1, (vB (b))), (2, (vB (b1))), (8, (vI (a0))), (9, (.slice 1 [[(vS (s1))]] .yes)), (10, (vB (b2)))], lm2 66 [], ⟨[[(.slice 4 (List.drop (Int.toNat 1) m) .no), (vI (z')), (vI (e)), (vI (a)), (vI (d'))]], [], .none, 1⟩⟩ =
 (.branch (b2)
 (.out (.need true
 (.ret ⟨(.ret (.tuple [(.slice 1 [[(vS (s1))]] .no), (vB (b2))])), .none, [[(.slice 4 (List.drop (Int.toNat 1) m) .no), (vI (z')), (vI (e)), (vI (a)), (vI (d'))]]⟩)))
 (.branch (b1)
 (.exB fun b3 =>
 (.call f_parsecore_Reader_Is [(.ptr 0 0), (vS ((⟨#[46]⟩ : ByteArray)))] .none [[(.slice 4 (List.drop (Int.toNat 1) m) .no), (vI (z')), (vI (e)), (vI (a)), (vI (d'))]] ⟨(.ret (vB (b3))), .none, [[(.slice 4 (List.drop (Int.toNat 1) m) .no), (vI (z')), (vI (e)), (vI (a)), (vI (d'))]]⟩
 (.branch (!b3)
 (.out (.need true
 (.ret ⟨(.ret (.tuple [(.slice 1 [[(vS (s1))]] .no), (vB (b2))])), .none, [[(.slice 4 (List.drop (Int.toNat 1) m) .no), (vI (z')), (vI (e)), (vI (a)), (vI (d'))]]⟩)))
 (.alt
 (.exR fun l1 =>
 (.exI fun i6 =>
 (.exI fun i7 =>
 (.exI fun i8 =>
 (.exI fun i9 =>
 (.call f_parsecore_Reader_Need [(.ptr 0 0), (vS ((⟨#[46]⟩ : ByteArray)))] .none [[(.slice 4 (List.drop (Int.toNat 1) m) .no), (vI (z')), (vI (e)), (vI (a)), (vI (d'))]] ⟨(.ret (.tuple [])), .none, [[(.slice 4 (l1) .no), (vI (i6)), (vI (i7)), (vI (i8)), (vI (i9))]]⟩
 (.done ⟨tm2 66 [(0, (.ptr 0 0)), (1, (vB (b))), (2, (vB (b1))), (8, (vI (a0))), (9, (.slice 1 [[(vS (s1))]] .yes))], lm2 66 [], ⟨[[(.slice 4 (l1) .no), (vI (i6)), (vI (i7)), (vI (i8)), (vI (i9))]], [], .none, 1⟩⟩)))))))
 (.exR fun l1 =>
 (.exI fun i6 =>
 (.exI fun i7 =>
 (.exI fun i8 =>
 (.exI fun i9 =>
 (.call f_parsecore_Reader_Need [(.ptr 0 0), (vS ((⟨#[46]⟩ : ByteArray)))] .none [[(.slice 4 (List.drop (Int.toNat 1) m) .no), (vI (z')), (vI (e)), (vI (a)), (vI (d'))]] ⟨(.panic (.iface y_parsecore_failure (.agg []))), .none, [[(.slice 4 (l1) .no), (vI (i6)), (vI (i7)), (vI (i8)), (vI (i9))]]⟩
 (.out (.need true
 (.ret ⟨(.panic (.iface y_parsecore_failure (.agg []))), .none, [[(.slice 4 (l1) .no), (vI (i6)), (vI (i7)), (vI (i8)), (vI (i9))]]⟩)))))))))))))
 (.alt
 (.exR fun l1 =>
 (.exI fun i6 =>
 (.exI fun i7 =>
 (.exI fun i8 =>
 (.exI fun i9 =>
 (.call f_parsecore_Reader_Need [(.ptr 0 0), (vS ((⟨#[46]⟩ : ByteArray)))] .none [[(.slice 4 (List.drop (Int.toNat 1) m) .no), (vI (z')), (vI (e)), (vI (a)), (vI (d'))]] ⟨(.ret (.tuple [])), .none, [[(.slice 4 (l1) .no), (vI (i6)), (vI (i7)), (vI (i8)), (vI (i9))]]⟩
 (.done ⟨tm2 66 [(0, (.ptr 0 0)), (1, (vB (b))), (2, (vB (b1))), (8, (vI (a0))), (9, (.slice 1 [[(vS (s1))]] .yes))], lm2 66 [], ⟨[[(.slice 4 (l1) .no), (vI (i6)), (vI (i7)), (vI (i8)), (vI (i9))]], [], .none, 1⟩⟩)))))))
 (.exR fun l1 =>
 (.exI fun i6 =>
 (.exI fun i7 =>
 (.exI fun i8 =>
 (.exI fun i9 =>
 (.call f_parsecore_Reader_Need [(.ptr 0 0), (vS ((⟨#[46]⟩ : ByteArray)))] .none [[(.slice 4 (List.drop (Int.toNat 1) m) .no), (vI (z')), (vI (e)), (vI (a)), (vI (d'))]] ⟨(.panic (.iface y_parsecore_failure (.agg []))), .none, [[(.slice 4 (l1) .no), (vI (i6)), (vI (i7)), (vI (i8)), (vI (i9))]]⟩
 (.out (.need true
 (.ret ⟨(.panic (.iface y_parsecore_failure (.agg []))), .none, [[(.slice 4 (l1) .no), (vI (i6)), (vI (i7)), (vI (i8)), (vI (i9))]]⟩)))))))))))) := by kernel_rfl
@[irreducible] noncomputable def X_ppath2B (l : List (List AV)) (z : Int) (d : Int) (b : Bool) (b1 : Bool) (i : Int) (s : ByteArray) (i1 : Int) (i2 : Int) (p : List (List AV)) (m : List (List AV)) (a0 : Int) (z' : Int) (e : Int) (a : Int) (d' : Int) : KT := KT.round Pg cfg0 rs0 kc5 (Y_ppath2 l z d b b1 i s i1 i2) { tmps := tm2 66 [(0, AV.ptr 0 0), (1, vB b), (2, vB b1), (8, vI a0), (9, AV.slice 1 p Own.yes)], lh := lm2 66 [], g := { H := [[AV.slice 4 m Own.no, vI z', vI e, vI a, vI d']], defers := [], rm := RM.none, base := 1 } }
theorem X_ppath2B_eq (l : List (List AV)) (z : Int) (d : Int) (b : Bool) (b1 : Bool) (i : Int) (s : ByteArray) (i1 : Int) (i2 : Int) (p : List (List AV)) (m : List (List AV)) (a0 : Int) (z' : Int) (e : Int) (a : Int) (d' : Int) : KT.round Pg cfg0 rs0 kc5 (Y_ppath2 l z d b b1 i s i1 i2) { tmps := tm2 66 [(0, AV.ptr 0 0), (1, vB b), (2, vB b1), (8, vI a0), (9, AV.slice 1 p Own.yes)], lh := lm2 66 [], g := { H := [[AV.slice 4 m Own.no, vI z', vI e, vI a, vI d']], defers := [], rm := RM.none, base := 1 } } =
 (.exB fun b2 =>
 (.call f_parsecore_Reader_of [(.ptr 0 0), (vI (1))] .none [[(.slice 4 (m) .no), (vI (z')), (vI (e)), (vI (a)), (vI (d'))]] ⟨(.ret (vB (b2))), .none, [[(.slice 4 (m) .no), (vI (z')), (vI (e)), (vI (a)), (vI (d'))]]⟩
 (.stage
 (.exB fun b3 =>
 (.call f_parsecore_Reader_of [(.ptr 0 0), (vI (2))] .none [[(.slice 4 (m) .no), (vI (z')), (vI (e)), (vI (a)), (vI (d'))]] ⟨(.ret (vB (b3))), .none, [[(.slice 4 (m) .no), (vI (z')), (vI (e)), (vI (a)), (vI (d'))]]⟩
 (.branch (!b3)
 (.branch (b2)
 (.branch (!b)
 (.branch ((↑m.length : Int) == 0)
 (.need true
 (.need true
 (.out (.out (.need true
 (.ret ⟨(.panic (.iface y_parsecore_failure (.agg []))), .none, [[(.slice 4 (m) .no), (vI (z')), (vI (11)), (vI (z')), (vI (d'))]]⟩))))))
 (.exI fun i3 =>
 (.exS fun s1 =>
 (.exI fun i4 =>
 (.exI fun i5 =>
 (.row (m) (0) [(vI (i3)), (vS (s1)), (vI (i4)), (vI (i5))]
 (.need true
 (.need true
 (.out (.out (.need true
 (.ret ⟨(.panic (.iface y_parsecore_failure (.agg []))), .none, [[(.slice 4 (m) .no), (vI (z')), (vI (11)), (vI (i5)), (vI (d'))]]⟩))))))))))))
 (.done ⟨tm2 66 [(0, (.ptr 0 0)), (1, (vB (b))), (2, (vB (b1))), (8, (vI (a0))), (9, (.slice 1 (p) .yes)), (10, (vB (b2)))], lm2 66 [], ⟨[[(.slice 4 (m) .no), (vI (z')), (vI (e)), (vI (a)), (vI (d'))]], [], .none, 1⟩⟩))
 (.branch ((↑m.length : Int) == 0)
 (.need true
 (.need true
 (.out (.out (.need true
 (.ret ⟨(.panic (.iface y_parsecore_failure (.agg []))), .none, [[(.slice 4 (m) .no), (vI (z')), (vI (11)), (vI (z')), (vI (d'))]]⟩))))))
 (.exI fun i3 =>
 (.exS fun s1 =>
 (.exI fun i4 =>
 (.exI fun i5 =>
 (.row (m) (0) [(vI (i3)), (vS (s1)), (vI (i4)), (vI (i5))]
 (.need true
 (.need true
 (.out (.out (.need true
 (.ret ⟨(.panic (.iface y_parsecore_failure (.agg []))), .none, [[(.slice 4 (m) .no), (vI (z')), (vI (11)), (vI (i5)), (vI (d'))]]⟩)))))))))))))
 (.done ⟨tm2 66 [(0, (.ptr 0 0)), (1, (vB (b))), (2, (vB (b1))), (8, (vI (a0))), (9, (.slice 1 (p) .yes)), (10, (vB (b2)))], lm2 66 [], ⟨[[(.slice 4 (m) .no), (vI (z')), (vI (e)), (vI (a)), (vI (d'))]], [], .none, 1⟩⟩))))
 (((X_ppath2B l z d b b1 i s i1 i2 p m a0 z' e a d').B b2).T.K)))) := by kernel_rfl
@[irreducible] noncomputable def X_ppath2Bs1 (l : List (List AV)) (z : Int) (d : Int) (b : Bool) (b1 : Bool) (i : Int) (s : ByteArray) (i1 : Int) (i2 : Int) (p : List (List AV)) (m : List (List AV)) (a0 : Int) (z' : Int) (e : Int) (a : Int) (d' : Int) (b2 : Bool) : KT := ((X_ppath2B l z d b b1 i s i1 i2 p m a0 z' e a d').B b2).T.K ⟨tm2 66 [(0, (.ptr 0 0)), (1, (vB (b))), (2, (vB (b1))), (8, (vI (a0))), (9, (.slice 1 (p) .yes)), (10, (vB (b2)))], lm2 66 [], ⟨[[(.slice 4 (m) .no), (vI (z')), (vI (e)), (vI (a)), (vI (d'))]], [], .none, 1⟩⟩
theorem X_ppath2Bs1_eq (l : List (List AV)) (z : Int) (d : Int) (b : Bool) (b1 : Bool) (i : Int) (s : ByteArray) (i1 : Int) (i2 : Int) (p : List (List AV)) (m : List (List AV)) (a0 : Int) (z' : Int) (e : Int) (a : Int) (d' : Int) (b2 : Bool) : ((X_ppath2B l z d b b1 i s i1 i2 p m a0 z' e a d').B b2).T.K ⟨tm2 66 [(0, (.ptr 0 0)), (1, (vB (b))), (2, (vB (b1))), (8, (vI (a0))), (9, (.slice 1 (p) .yes)), (10, (vB (b2)))], lm2 66 [], ⟨[[(.slice 4 (m) .no), (vI (z')), (vI (e)), (vI (a)), (vI (d'))]], [], .none, 1⟩⟩ =
 (.exI fun i3 =>
 (.exS fun s1 =>
 (.exI fun i4 =>
 (.exI fun i5 =>
 (.row (m) (0) [(vI (i3)), (vS (s1)), (vI (i4)), (vI (i5))]
 (.need ((p.length + [[normS Pg y_string (AV.val (Value.string s1)).dis]].length).ble 2147483648)
 (.need (decide ((m = [] ∨ (fun x => x.size) Pg.types[y_lex_Token] = 4) ∧ (0 : Int) ≤ 1 ∧ 1 ≤ (↑m.length : Int) ∧ (↑m.length : Int) ≤ (↑m.length : Int)))
 (.stage
 (.branch (decide ((↑(p ++ List.map (fun x => List.map AV.dis x) [[normS Pg y_string (AV.val (Value.string s1)).dis]]).length : Int) > 8))
 (.need true
 (.out (.out (.need true
 (.ret ⟨(.panic (.iface y_parsecore_failure (.agg []))), .none, [[(.slice 4 (List.drop (Int.toNat 1) m) .no), (vI (z')), (vI (3)), (vI (a0)), (vI (d'))]]⟩)))))
 (.done ⟨tm2 66 [(0, (.ptr 0 0)), (1, (vB (b))), (2, (vB (b1))), (8, (vI (a0))), (9, (.slice 1 (p ++ List.map (fun x => List.map AV.dis x) [[normS Pg y_string (AV.val (Value.string s1)).dis]]) .yes)), (10, (vB (b2)))], lm2 66 [], ⟨[[(.slice 4 (List.drop (Int.toNat 1) m) .no), (vI (z')), (vI (e)), (vI (a)), (vI (d'))]], [], .none, 1⟩⟩))
 ((((((X_ppath2Bs1 l z d b b1 i s i1 i2 p m a0 z' e a d' b2).I i3).S s1).I i4).I i5).T.T.T.K))))))))) := by kernel_rfl
theorem X_ppath2Bs2_eq (l : List (List AV)) (z : Int) (d : Int) (b : Bool) (b1 : Bool) (i : Int) (s : ByteArray) (i1 : Int) (i2 : Int) (p : List (List AV)) (m : List (List AV)) (a0 : Int) (z' : Int) (e : Int) (a : Int) (d' : Int) (b2 : Bool) (i3 : Int) (s1 : ByteArray) (i4 : Int) (i5 : Int) : (((((X_ppath2Bs1 l z d b b1 i s i1 i2 p m a0 z' e a d' b2).I i3).S s1).I i4).I i5).T.T.T.K ⟨tm2 66 [(0, (.ptr 0 0)), (1, (vB (b))), (2, (vB (b1))), (8, (vI (a0))), (9, (.slice 1 (p ++ List.map (fun x => List.map AV.dis x) [[normS Pg y_string (AV.val (Value.string s1)).dis]]) .yes)), (10, (vB (b2)))], lm2 66 [], ⟨[[(.slice 4 (List.drop (Int.toNat 1) m) .no), (vI (z')), (vI (e)), (vI (a)), (vI (d'))]], [], .none, 1⟩⟩ =
 (.branch (b2)
 (.out (.need true
 (.ret ⟨(.ret (.tuple [(.slice 1 (p ++ List.map (fun x => List.map AV.dis x) [[normS Pg y_string (AV.val (Value.string s1)).dis]]) .no), (vB (b2))])), .none, [[(.slice 4 (List.drop (Int.toNat 1) m) .no), (vI (z')), (vI (e)), (vI (a)), (vI (d'))]]⟩)))
 (.branch (b1)
 (.exB fun b3 =>
 (.call f_parsecore_Reader_Is [(.ptr 0 0), (vS ((⟨#[46]⟩ : ByteArray)))] .none [[(.slice 4 (List.drop (Int.toNat 1) m) .no), (vI (z')), (vI (e)), (vI (a)), (vI (d'))]] ⟨(.ret (vB (b3))), .none, [[(.slice 4 (List.drop (Int.toNat 1) m) .no), (vI (z')), (vI (e)), (vI (a)), (vI (d'))]]⟩
 (.branch (!b3)
 (.out (.need true
 (.ret ⟨(.ret (.tuple [(.slice 1 (p ++ List.map (fun x => List.map AV.dis x) [[normS Pg y_string (AV.val (Value.string s1)).dis]]) .no), (vB (b2))])), .none, [[(.slice 4 (List.drop (Int.toNat 1) m) .no), (vI (z')), (vI (e)), (vI (a)), (vI (d'))]]⟩)))
 (.alt
 (.exR fun l1 =>
 (.exI fun i6 =>
 (.exI fun i7 =>
 (.exI fun i8 =>
 (.exI fun i9 =>
 (.call f_parsecore_Reader_Need [(.ptr 0 0), (vS ((⟨#[46]⟩ : ByteArray)))] .none [[(.slice 4 (List.drop (Int.toNat 1) m) .no), (vI (z')), (vI (e)), (vI (a)), (vI (d'))]] ⟨(.ret (.tuple [])), .none, [[(.slice 4 (l1) .no), (vI (i6)), (vI (i7)), (vI (i8)), (vI (i9))]]⟩
 (.done ⟨tm2 66 [(0, (.ptr 0 0)), (1, (vB (b))), (2, (vB (b1))), (8, (vI (a0))), (9, (.slice 1 (p ++ List.map (fun x => List.map AV.dis x) [[normS Pg y_string (AV.val (Value.string s1)).dis]]) .yes))], lm2 66 [], ⟨[[(.slice 4 (l1) .no), (vI (i6)), (vI (i7)), (vI (i8)), (vI (i9))]], [], .none, 1⟩⟩)))))))
 (.exR fun l1 =>
 (.exI fun i6 =>
 (.exI fun i7 =>
 (.exI fun i8 =>
 (.exI fun i9 =>
 (.call f_parsecore_Reader_Need [(.ptr 0 0), (vS ((⟨#[46]⟩ : ByteArray)))] .none [[(.slice 4 (List.drop (Int.toNat 1) m) .no), (vI (z')), (vI (e)), (vI (a)), (vI (d'))]] ⟨(.panic (.iface y_parsecore_failure (.agg []))), .none, [[(.slice 4 (l1) .no), (vI (i6)), (vI (i7)), (vI (i8)), (vI (i9))]]⟩
 (.out (.need true
 (.ret ⟨(.panic (.iface y_parsecore_failure (.agg []))), .none, [[(.slice 4 (l1) .no), (vI (i6)), (vI (i7)), (vI (i8)), (vI (i9))]]⟩)))))))))))))
 (.alt
 (.exR fun l1 =>
 (.exI fun i6 =>
 (.exI fun i7 =>
 (.exI fun i8 =>
 (.exI fun i9 =>
 (.call f_parsecore_Reader_Need [(.ptr 0 0), (vS ((⟨#[46]⟩ : ByteArray)))] .none [[(.slice 4 (List.drop (Int.toNat 1) m) .no), (vI (z')), (vI (e)), (vI (a)), (vI (d'))]] ⟨(.ret (.tuple [])), .none, [[(.slice 4 (l1) .no), (vI (i6)), (vI (i7)), (vI (i8)), (vI (i9))]]⟩
 (.done ⟨tm2 66 [(0, (.ptr 0 0)), (1, (vB (b))), (2, (vB (b1))), (8, (vI (a0))), (9, (.slice 1 (p ++ List.map (fun x => List.map AV.dis x) [[normS Pg y_string (AV.val (Value.string s1)).dis]]) .yes))], lm2 66 [], ⟨[[(.slice 4 (l1) .no), (vI (i6)), (vI (i7)), (vI (i8)), (vI (i9))]], [], .none, 1⟩⟩)))))))
 (.exR fun l1 =>
 (.exI fun i6 =>
 (.exI fun i7 =>
 (.exI fun i8 =>
 (.exI fun i9 =>
 (.call f_parsecore_Reader_Need [(.ptr 0 0), (vS ((⟨#[46]⟩ : ByteArray)))] .none [[(.slice 4 (List.drop (Int.toNat 1) m) .no), (vI (z')), (vI (e)), (vI (a)), (vI (d'))]] ⟨(.panic (.iface y_parsecore_failure (.agg []))), .none, [[(.slice 4 (l1) .no), (vI (i6)), (vI (i7)), (vI (i8)), (vI (i9))]]⟩
 (.out (.need true
 (.ret ⟨(.panic (.iface y_parsecore_failure (.agg []))), .none, [[(.slice 4 (l1) .no), (vI (i6)), (vI (i7)), (vI (i8)), (vI (i9))]]⟩)))))))))))) := by kernel_rfl
end Go.Proofs
end

section
/- PARSE: the program's reader: Is, of, Take, Need, taken -/
set_option linter.unusedVariables false
set_option linter.unusedSimpArgs false
set_option maxRecDepth 100000
open Go Go.Eng Go.Pa
open Go.Lx (T Tok)
namespace Go.Proofs
theorem kt5_is {f : FuncId} {args : List AV} {H : Heap} {r : CRes} (h : (kt5 f args H).wp Pg cfg0 evp [] (fun x => x = r)) : evp f args .none H = some r := kt5_ev h
theorem retH {x y : AV} {H : Heap} (h : x = y) : (⟨.ret x, .none, H⟩ : CRes) = ⟨.ret y, .none, H⟩ := by rw [h]
theorem kq (a b : Nat) : ((a : Int) == (b : Int)) = (a == b) := by
  rw [Bool.eq_iff_iff, beq_iff_eq, beq_iff_eq]; omega
theorem tok_size : ((fun x => x.size) Pg.types[y_lex_Token] : Nat) = 4 := by kernel_rfl
theorem cut1 {t : Tok} {r : List Tok} : decide ((tks (t :: r) = [] ∨ (fun x => x.size) Pg.types[y_lex_Token] = 4) ∧ (0 : Int) ≤ 1 ∧ 1 ≤ ((tks (t :: r)).length : Int) ∧ ((tks (t :: r)).length : Int) ≤ ((tks (t :: r)).length : Int)) = true :=
  decide_eq_true ⟨.inr tok_size, by decide, by simp; omega, Int.le_refl _⟩
theorem row0 {t : Tok} {r : List Tok} : (0 : Int) ≤ 0 ∧ (tks (t :: r))[(0 : Int).toNat]? = some [vI t.kind, vS ⟨t.text.toArray⟩, vI t.n, vI t.at_] := ⟨Int.le_refl _, rfl⟩
theorem lows_tks (n : Nat) : ∀ l : List Tok, lowss n (tks l) = true
  | [] => rfl
  | t :: l => by simp only [tks, List.map_cons, lowss, lows_tks n l]; rfl
theorem ren_tks (ρ : Nat → Nat) : ∀ l : List Tok, renss ρ (tks l) = tks l
  | [] => rfl
  | t :: l => by simp only [tks, List.map_cons, renss, ren_tks ρ l]; rfl
theorem inv5 (l : List Tok) (z e p d : Int) : Inv1 (hp5 (tks l) z e p d) := fun k => by
  simp only [hp5, List.map_cons, List.map_nil, AV.ren, ren_tks]; rfl
theorem lift5 {f : FuncId} {args : List AV} {o : Out} {m m' : List Tok} {z e p d z' e' p' d' : Int} {K : Heap} (h : evp f args .none [hp5 (tks m) z e p d] = some ⟨o, .none, [hp5 (tks m') z' e' p' d']⟩)
    (ha : Inv1 args) (ho : ∀ k, renOut (rho1 k) o = o) (hk : lowss (1 + K.length) K = true) : evp f args .none (hp5 (tks m) z e p d :: K) = some ⟨o, .none, hp5 (tks m') z' e' p' d' :: K⟩ :=
  ev_lift1 gx_ren h ha (inv5 _ _ _ _ _) (inv5 _ _ _ _ _) ho hk
theorem wrapU {d : Nat} (hB : d < BIG) : IntKind.i64.wrap ((d : Int) + 1) = ((d + 1 : Nat) : Int) := kw_succ (by unfold BIG at hB; omega)
theorem wrapD {d : Nat} (hB : d < BIG) : IntKind.i64.wrap (((d + 1 : Nat) : Int) - 1) = (d : Int) := kw_pred (by unfold BIG at hB; omega)
theorem nf {p : Prop} (h : false = true) : p := by cases h
theorem tf {p : Prop} (h : true = false) : p := by cases h
theorem len0 {t : Tok} {r : List Tok} {p : Prop} (h : (((tks (t :: r)).length : Int) == 0) = true) : p := by simp at h; omega
theorem c_pIs (l : List Tok) (z d : Nat) (w : ByteArray) : evp f_parsecore_Reader_Is [.ptr 0 0, vS w] .none (rH l z d) = some ⟨.ret (vB (isW (tx w) l)), .none, rH l z d⟩ := by
  refine kt5_is (wp_eq2 (X_pIs_eq ..) (wp_stage (wp_if2 nf fun _ => wp_if2 (fun h => absurd h (by decide)) fun _ => ?_)))
  cases l with
  | nil => exact wp_if2 (fun _ => wp_out ⟨rfl, wp_if2 nf (fun _ => ⟨rfl, rfl⟩)⟩) (fun h => absurd h (by decide))
  | cons t r =>
    refine wp_if2 len0 (fun _ => wp_done (wp_eq2 (X_pIss1_eq ..) ⟨_, _, _, _, row0, rfl, wp_if2 (fun _ => ?_) tf⟩))
    have e3 : ((t.kind : Int) == 3) = (t.kind == 3) := kq _ 3
    have e6 : ((t.kind : Int) == 6) = (t.kind == 6) := kq _ 6
    rw [e3, e6]
    refine wp_if2 (fun h => ⟨rfl, retH (congrArg vB ?_)⟩) (fun h => wp_if2 (fun h6 => ⟨rfl, retH (congrArg vB ?_)⟩) (fun h6 => ⟨rfl, retH (congrArg vB ?_)⟩))
    · rw [beq_tx]; simp [isW, h, tx]
    · rw [beq_tx]; simp [isW, h6, tx]
    · simp [isW, h, h6]
theorem c_pof (l : List Tok) (z d k : Nat) : evp f_parsecore_Reader_of [.ptr 0 0, vI (k : Int)] .none (rH l z d) = some ⟨.ret (vB (ofK k l)), .none, rH l z d⟩ := by
  refine kt5_is (wp_eq2 (X_pof_eq ..) (wp_stage (wp_if2 nf fun _ => wp_if2 (fun h => absurd h (by decide)) fun _ => ?_)))
  cases l with
  | nil => exact wp_if2 (fun _ => wp_out ⟨rfl, wp_if2 nf (fun _ => ⟨rfl, rfl⟩)⟩) (fun h => absurd h (by decide))
  | cons t r =>
    refine wp_if2 len0 (fun _ => wp_done (wp_eq2 (X_pofs1_eq ..) ⟨_, _, _, _, row0, rfl, wp_if2 (fun _ => ⟨rfl, retH (congrArg vB ?_)⟩) tf⟩))
    exact kq _ _
theorem c_pTake (l : List Tok) (z d : Nat) (w : ByteArray) : evp f_parsecore_Reader_Take [.ptr 0 0, vS w] .none (rH l z d) = some ⟨.ret (vB (isW (tx w) l)), .none, rH (if isW (tx w) l then l.tail else l) z d⟩ := by
  refine kt5_is (wp_eq2 (X_pTake_eq ..) ⟨_, c_pIs l z d w, ?_⟩)
  cases hb : isW (tx w) l with
  | false => exact wp_if2 (fun _ => ⟨rfl, rfl⟩) tf
  | true =>
    cases l with
    | nil => cases hb
    | cons t r => exact wp_if2 nf (fun _ => ⟨cut1, rfl, rfl⟩)
theorem c_pNeed {l : List Tok} {z d : Nat} {w : ByteArray} (hg : Gd l) (hd : 0 < d) (hB : d < BIG) : RC unitV (need z (tx w) l) z d f_parsecore_Reader_Need [.ptr 0 0, vS w] (rH l z d) := by
  have h1 := wrapU hB
  have h2 := wrapD hB
  refine rc_of (wp_eq2 (X_pNeed_eq ..) (wp_stage (wp_if2 nf fun _ => wp_if2 (fun h => absurd h (by decide)) fun _ => wp_done (wp_eq2 (X_pNeeds1_eq ..) ?_))))
  have c := lift5 (K := [[vB false]]) (c_pTake l z (d + 1) w) (fun _ => rfl) (fun _ => rfl) rfl
  rw [h1]
  have hpos : decide (IntKind.i64.wrap (((d + 1 : Nat) : Int) - 1) > 0) = true := by rw [h2]; exact decide_eq_true (by omega)
  cases hb : isW (tx w) l with
  | true =>
    rw [hb] at c
    refine ⟨true, _, _, _, _, _, _, c, wp_if2 nf fun _ => ⟨rfl, wp_if2 (fun _ => ⟨lows_tks .., rfl, ?_⟩) tf⟩⟩
    rw [h2]; exact rq_ok (by unfold need; rw [if_pos hb]; rfl) hg.tail rfl
  | false =>
    rw [hb] at c
    have hn : need z (tx w) l = .no 11 (pl z l) := by unfold need; rw [if_neg (by rw [hb]; decide)]
    refine ⟨false, _, _, _, _, _, _, c, wp_if2 (fun _ => ?_) tf⟩
    cases l with
    | nil =>
      refine wp_if2 (fun _ => ⟨rfl, rfl, rfl, wp_if2 nf fun _ => wp_if2 (fun _ => wp_if2 (fun _ => ⟨lows_tks 1 [], rfl, ?_⟩) (fun h => by rw [hpos] at h; cases h)) tf⟩) (fun h => absurd h (by decide))
      rw [h2]; exact rq_no (l := []) hn (by decide)
    | cons t r =>
      refine wp_if2 len0 (fun _ => ⟨_, _, _, _, row0, rfl, rfl, rfl, wp_if2 nf fun _ => wp_if2 (fun _ => wp_if2 (fun _ => ⟨lows_tks .., rfl, ?_⟩) (fun h => by rw [hpos] at h; cases h)) tf⟩)
      rw [h2]; exact rq_no hn (by decide)
theorem c_ptaken {l : List Tok} {z d k : Nat} (hg : Gd l) (hd : 0 < d) (hB : d < BIG) : RC strV (taken z k l) z d f_parsecore_Reader_taken [.ptr 0 0, vI (k : Int)] (rH l z d) := by
  have h1 := wrapU hB
  have h2 := wrapD hB
  refine rc_of (wp_eq2 (X_ptaken_eq ..) (wp_stage (wp_if2 nf fun _ => wp_if2 (fun h => absurd h (by decide)) fun _ => wp_done (wp_eq2 (X_ptakens1_eq ..) (wp_stage ?_)))))
  have c := lift5 (K := [[vS ⟨#[]⟩]]) (c_pof l z (d + 1) k) (fun _ => rfl) (fun _ => rfl) rfl
  have hpos : decide (IntKind.i64.wrap (((d + 1 : Nat) : Int) - 1) > 0) = true := by rw [h2]; exact decide_eq_true (by omega)
  rw [h1]
  refine ⟨_, c, ?_⟩
  cases l with
  | nil =>
    refine wp_if2 (fun _ => wp_if2 (fun _ => ⟨rfl, rfl, wp_out ⟨rfl, wp_if2 nf fun _ => wp_if2 (fun _ => wp_if2 (fun _ => ⟨lows_tks 1 [], rfl, ?_⟩) (fun h => by rw [hpos] at h; cases h)) tf⟩⟩) (fun h => absurd h (by decide))) tf
    rw [h2]; exact rq_no (l := []) (p := z) rfl (by decide)
  | cons t r =>
    cases hk : ofK k (t :: r) with
    | false =>
      refine wp_if2 (fun _ => wp_if2 len0 (fun _ => ⟨_, _, _, _, row0, rfl, rfl, wp_out ⟨rfl, wp_if2 nf fun _ => wp_if2 (fun _ => wp_if2 (fun _ => ⟨lows_tks .., rfl, ?_⟩) (fun h => by rw [hpos] at h; cases h)) tf⟩⟩)) tf
      have hk2 : (t.kind == k) = false := hk
      rw [h2]; exact rq_no (p := t.at_) (by simp only [taken, hk2, Bool.false_eq_true, if_false]) (by decide)
    | true =>
      have hk2 : (t.kind == k) = true := hk
      have e := X_ptakens2_eq (tks (t :: r)) z d k
      rw [h1] at e
      refine wp_if2 nf (fun _ => wp_done (wp_eq2 e ⟨_, _, _, _, row0, cut1, rfl, wp_if2 (fun _ => ⟨lows_tks 1 r, rfl, ?_⟩) tf⟩))
      rw [h2]; exact rq_ok (a := t.text) (l := r) (by simp only [taken, hk2, if_true]) hg.cons.2 rfl
end Go.Proofs
end

section
/- PARSE: the program's reader: path, Path -/
set_option linter.unusedVariables false
set_option linter.unusedSimpArgs false
set_option maxRecDepth 100000
open Go Go.Eng Go.Pa
open Go.Lx (T Tok)
namespace Go.Proofs
abbrev pRows (p : List T) : List (List AV) := p.map fun t => [vS (bs t)]
def pY : List T → AV
  | [] => .slice 0 [] .full
  | t :: p => .slice 1 (pRows (t :: p)) .yes
theorem path_nil {z : Nat} {a b : Bool} {s : Nat} {p : List T} : path z a b s p [] = .no 11 z := by rw [path]
theorem path_cons {z : Nat} {a b : Bool} {s : Nat} {p : List T} {t : Tok} {l : List Tok} : path z a b s p (t :: l) =
    if t.kind == 2 || (t.kind == 1 && a) then
      if 8 < p.length + 1 then .no 3 s
      else if t.kind == 1 then .ok (p ++ [t.text], true) l
      else match l with
        | [] => if b then .ok (p ++ [t.text], false) [] else .no 11 z
        | d :: l' => if isW wDot [d] then path z a b s (p ++ [t.text]) l'
            else if b then .ok (p ++ [t.text], false) (d :: l') else .no 11 d.at_
    else .no 11 t.at_ := by
  conv => lhs; unfold path
  cases l <;> rfl
section
variable {QD : List (St → Prop)} {z d : Nat} {F : Res (List T × Bool)}
/-- The end of a round: the name is a last one, or a point stands behind it. -/
theorem path_tail {b1 b2 : Bool} {P : List (List AV)} {r : List Tok} {p' : List T} {S : List (List AV) → Int → Int → Int → Int → St} {Q : St → Prop} (hd : 0 < d) (hB : d < BIG) (hP : P = pRows p')
    (hF : F = if b2 then .ok (p', true) r else match r with
        | [] => if b1 then .ok (p', false) [] else .no 11 z
        | e :: r' => if isW wDot [e] then F else if b1 then .ok (p', false) (e :: r') else .no 11 e.at_)
    (hQ : ∀ e r', b2 = false → r = e :: r' → isW wDot [e] = true → Q (S (tks r') z 0 0 d)) (hg : Gd r) :
    (KT.branch b2 (.out (.need true (.ret ⟨.ret (.tuple [.slice 1 P .no, vB b2]), .none, rH r z d⟩)))
      (.branch b1
        (.exB fun b3 => .call f_parsecore_Reader_Is [.ptr 0 0, vS ⟨#[46]⟩] .none (rH r z d) ⟨.ret (vB b3), .none, rH r z d⟩
          (.branch (!b3) (.out (.need true (.ret ⟨.ret (.tuple [.slice 1 P .no, vB b2]), .none, rH r z d⟩)))
            (.alt (.exR fun m => .exI fun a => .exI fun e => .exI fun p => .exI fun d' => .call f_parsecore_Reader_Need [.ptr 0 0, vS ⟨#[46]⟩] .none (rH r z d) ⟨.ret (.tuple []), .none, [hp5 m a e p d']⟩ (.done (S m a e p d')))
              (.exR fun m => .exI fun a => .exI fun e => .exI fun p => .exI fun d' => .call f_parsecore_Reader_Need [.ptr 0 0, vS ⟨#[46]⟩] .none (rH r z d) ⟨.panic failV, .none, [hp5 m a e p d']⟩ (.out (.need true (.ret ⟨.panic failV, .none, [hp5 m a e p d']⟩)))))))
        (.alt (.exR fun m => .exI fun a => .exI fun e => .exI fun p => .exI fun d' => .call f_parsecore_Reader_Need [.ptr 0 0, vS ⟨#[46]⟩] .none (rH r z d) ⟨.ret (.tuple []), .none, [hp5 m a e p d']⟩ (.done (S m a e p d')))
              (.exR fun m => .exI fun a => .exI fun e => .exI fun p => .exI fun d' => .call f_parsecore_Reader_Need [.ptr 0 0, vS ⟨#[46]⟩] .none (rH r z d) ⟨.panic failV, .none, [hp5 m a e p d']⟩ (.out (.need true (.ret ⟨.panic failV, .none, [hp5 m a e p d']⟩))))))).wp Pg cfg0 evp (Q :: QD) (Rq pathV F z d) := by
  subst hP
  have key : ∀ b, b2 = false → (b = false ∨ isW wDot r = true) → b1 = b ∨ isW wDot r = true → (KT.alt (.exR fun m => .exI fun a => .exI fun e => .exI fun p => .exI fun d' => .call f_parsecore_Reader_Need [.ptr 0 0, vS ⟨#[46]⟩] .none (rH r z d) ⟨.ret (.tuple []), .none, [hp5 m a e p d']⟩ (.done (S m a e p d')))
              (.exR fun m => .exI fun a => .exI fun e => .exI fun p => .exI fun d' => .call f_parsecore_Reader_Need [.ptr 0 0, vS ⟨#[46]⟩] .none (rH r z d) ⟨.panic failV, .none, [hp5 m a e p d']⟩ (.out (.need true (.ret ⟨.panic failV, .none, [hp5 m a e p d']⟩))))).wp Pg cfg0 evp (Q :: QD) (Rq pathV F z d) := by
    intro b h2 hb hb1
    refine wp_unit (c_pNeed hg hd hB) (fun u l hn _ => ?_) (fun e p l hn he => wp_out ⟨rfl, rq_no ?_ he⟩)
    · cases r with
      | nil => cases hn
      | cons e r' =>
        have hw : isW wDot [e] = true := by
          cases hw : isW wDot [e] with
          | true => rfl
          | false =>
            have hw2 : isW (tx ⟨#[46]⟩) (e :: r') = false := hw
            unfold need at hn; rw [hw2] at hn; cases hn
        have hw2 : isW (tx ⟨#[46]⟩) (e :: r') = true := hw
        unfold need at hn
        rw [if_pos hw2] at hn
        injection hn with _ hn
        subst hn
        exact wp_done (hQ e r' h2 rfl hw)
    · rw [h2] at hF
      cases r with
      | nil =>
        have e1 : need z (tx ⟨#[46]⟩) [] = .no 11 z := rfl
        rw [e1] at hn
        injection hn with n1 n2
        subst n1 n2
        rcases hb with hb | hb
        · rcases hb1 with h | h
          · rw [h, hb] at hF; exact hF
          · cases h
        · cases hb
      | cons e' r' =>
        cases hw : isW wDot [e'] with
        | true =>
          have hw2 : isW (tx ⟨#[46]⟩) (e' :: r') = true := hw
          unfold need at hn; rw [hw2] at hn; cases hn
        | false =>
          have hw2 : isW (tx ⟨#[46]⟩) (e' :: r') = false := hw
          have hw3 : isW wDot (e' :: r') = false := hw
          unfold need at hn
          rw [hw2] at hn
          injection hn with n1 n2
          subst n1 n2
          rcases hb with hb | hb
          · rcases hb1 with h | h
            · rw [h, hb] at hF; simp only [hw, Bool.false_eq_true, if_false] at hF; exact hF
            · rw [hw3] at h; cases h
          · rw [hw3] at hb; cases hb
  refine wp_if2 (fun h2 => ?_) (fun h2 => wp_if2 (fun h1 => ?_) (fun h1 => key false h2 (.inl rfl) (.inl h1)))
  · rw [h2, if_pos rfl] at hF
    exact wp_out ⟨rfl, rq_ok hF hg (by rw [h2])⟩
  · refine ⟨_, c_pIs r z d _, wp_if2 (fun hw => ?_) (fun hw => ?_)⟩
    · have hw : isW (tx ⟨#[46]⟩) r = false := by simpa using hw
      rw [h2] at hF
      refine wp_out ⟨rfl, rq_ok (a := (p', false)) ?_ hg (by rw [h2])⟩
      rw [hF]
      cases r with
      | nil => simp only [h1, if_true, Bool.false_eq_true, if_false]
      | cons e r' =>
        have hw' : isW wDot [e] = false := hw
        simp only [h1, hw', if_true, Bool.false_eq_true, if_false]
    · have hw : isW (tx ⟨#[46]⟩) r = true := by simpa using hw
      exact key b1 h2 (.inr hw) (.inl rfl)
/-- The beginning of a round: a name stands next. -/
theorem path_head {b b1 : Bool} {st : Nat} {p : List T} {m : List Tok} {s : Bool → St} {K : Bool → St → KT} {Q : St → Prop}
    (hF : F = path z b b1 st p m)
    (hgo : ∀ t r, m = t :: r → (t.kind == 2 || (t.kind == 1 && b)) = true → (K (t.kind == 1) (s (t.kind == 1))).wp Pg cfg0 evp (Q :: QD) (Rq pathV F z d)) :
    (KT.exB fun b2 => .call f_parsecore_Reader_of [.ptr 0 0, vI 1] .none (rH m z d) ⟨.ret (vB b2), .none, rH m z d⟩
      (.stage (.exB fun b3 => .call f_parsecore_Reader_of [.ptr 0 0, vI 2] .none (rH m z d) ⟨.ret (vB b3), .none, rH m z d⟩
        (.branch (!b3)
          (.branch b2
            (.branch (!b)
              (.branch (((tks m).length : Int) == 0)
                (.need true (.need true (.out (.out (.need true (.ret ⟨.panic failV, .none, [hp5 (tks m) z 11 z d]⟩))))))
                (.exI fun i3 => .exS fun s1 => .exI fun i4 => .exI fun i5 => .row (tks m) 0 [vI i3, vS s1, vI i4, vI i5]
                  (.need true (.need true (.out (.out (.need true (.ret ⟨.panic failV, .none, [hp5 (tks m) z 11 i5 d]⟩))))))))
              (.done (s b2)))
            (.branch (((tks m).length : Int) == 0)
              (.need true (.need true (.out (.out (.need true (.ret ⟨.panic failV, .none, [hp5 (tks m) z 11 z d]⟩))))))
              (.exI fun i3 => .exS fun s1 => .exI fun i4 => .exI fun i5 => .row (tks m) 0 [vI i3, vS s1, vI i4, vI i5]
                (.need true (.need true (.out (.out (.need true (.ret ⟨.panic failV, .none, [hp5 (tks m) z 11 i5 d]⟩)))))))))
          (.done (s b2)))) (K b2))).wp Pg cfg0 evp (Q :: QD) (Rq pathV F z d) := by
  cases m with
  | nil =>
    rw [path_nil] at hF
    exact ⟨_, c_pof [] z d 1, wp_stage ⟨_, c_pof [] z d 2, wp_if2 (fun _ => wp_if2 nf fun _ => wp_if2 (fun _ => ⟨rfl, rfl, wp_out (wp_out ⟨rfl, rq_no (l := []) hF (by decide)⟩)⟩) (fun h => absurd h (by decide))) tf⟩⟩
  | cons t r =>
    have h2 : ofK 2 (t :: r) = (t.kind == 2) := rfl
    have h1 : ofK 1 (t :: r) = (t.kind == 1) := rfl
    have hfail : (t.kind == 2 || (t.kind == 1 && b)) = false → Rq pathV F z d ⟨.panic failV, .none, [hp5 (tks (t :: r)) z 11 t.at_ d]⟩ := fun hc => by
      refine rq_no (e := 11) ?_ (by decide)
      rw [hF, path_cons, hc]; rfl
    refine ⟨_, c_pof (t :: r) z d 1, wp_stage ⟨_, c_pof (t :: r) z d 2, wp_if2 (fun hk2 => ?_) (fun hk2 => ?_)⟩⟩
    · have hk2 : (t.kind == 2) = false := by rw [← h2]; simpa using hk2
      refine wp_if2 (fun hk1 => wp_if2 (fun hb => ?_) (fun hb => ?_)) (fun hk1 => ?_)
      · have hb : b = false := by simpa using hb
        exact wp_if2 len0 (fun _ => ⟨_, _, _, _, row0, rfl, rfl, wp_out (wp_out ⟨rfl, hfail (by rw [hk2, hb]; simp)⟩)⟩)
      · have hb : b = true := by simpa using hb
        rw [h1] at hk1
        exact wp_done (hgo t r rfl (by rw [hk1, hb]; simp))
      · rw [h1] at hk1
        exact wp_if2 len0 (fun _ => ⟨_, _, _, _, row0, rfl, rfl, wp_out (wp_out ⟨rfl, hfail (by rw [hk2, hk1]; simp)⟩)⟩)
    · have hk2 : (t.kind == 2) = true := by rw [← h2]; simpa using hk2
      exact wp_done (hgo t r rfl (by rw [hk2]; rfl))
end
theorem c_ppath {l : List Tok} {z d : Nat} {b b1 : Bool} (hg : Gd l) (hd : 0 < d) (hB : d < BIG) : RC pathV (path z b b1 (pl z l) [] l) z d f_parsecore_Reader_path [.ptr 0 0, vB b, vB b1] (rH l z d) := by
  cases l with
  | nil =>
    refine rc_of (wp_eq2 (X_ppath_eq ..) (wp_if2 (fun _ => ⟨rfl, ?_⟩) (fun h => absurd h (by decide))))
    have hY : (X_ppath (tks []) z d b b1).T.T = Y_ppath1 (tks []) z d b b1 := by delta X_ppath Y_ppath1; rfl
    refine wp_eq2 hY (loop5 (fun _ : Unit => ⟨tm2 66 [(0, (.ptr 0 0)), (1, (vB (b))), (2, (vB (b1))), (8, (vI (z))), (9, (.slice 0 [] .full))], lm2 66 [], ⟨[hp5 (tks []) z 0 0 d], [], .none, 1⟩⟩) (fun _ => True) (fun _ => 0) () (by kernel_rfl) trivial ?_)
    intro _ _
    exact wp_eq2 (X_ppath1A_eq ..) (path_head (m := []) (p := []) (b := b) (b1 := b1) (st := z) rfl (fun t r h => by cases h))
  | cons t0 l0 =>
    refine rc_of (wp_eq2 (X_ppath_eq ..) (wp_if2 len0 (fun _ => ⟨_, _, _, _, row0, rfl, ?_⟩)))
    have hY : (((((X_ppath (tks (t0 :: l0)) z d b b1).F.I t0.kind).S ⟨t0.text.toArray⟩).I t0.n).I t0.at_).T.T = Y_ppath2 (tks (t0 :: l0)) z d b b1 t0.kind ⟨t0.text.toArray⟩ t0.n t0.at_ := by delta X_ppath Y_ppath2; rfl
    generalize hFF : path z b b1 (pl z (t0 :: l0)) [] (t0 :: l0) = F
    refine wp_eq2 hY (loop5 (fun x : List T × List Tok => ⟨tm2 66 [(0, (.ptr 0 0)), (1, (vB (b))), (2, (vB (b1))), (8, (vI t0.at_)), (9, pY x.1)], lm2 66 [], ⟨[hp5 (tks x.2) z 0 0 d], [], .none, 1⟩⟩)
      (fun x => F = path z b b1 t0.at_ x.1 x.2 ∧ x.1.length ≤ 8 ∧ Gd x.2) (fun x => x.2.length) ([], t0 :: l0) (by kernel_rfl) ⟨hFF.symm, Nat.zero_le _, hg⟩ ?_)
    rintro ⟨p, m⟩ ⟨hF, hp, hgm⟩
    simp only at hF hp hgm
    have go : ∀ t r, m = t :: r → (t.kind == 2 || (t.kind == 1 && b)) = true → ¬ 8 < p.length + 1 →
        F = if (t.kind == 1) then .ok (p ++ [t.text], true) r else match r with
        | [] => if b1 then .ok (p ++ [t.text], false) [] else .no 11 z
        | e :: r' => if isW wDot [e] then F else if b1 then .ok (p ++ [t.text], false) (e :: r') else .no 11 e.at_ := by
      intro t r hm hc h8
      subst hm
      rw [path_cons, if_pos hc, if_neg h8] at hF
      rw [hF]
      split
      · rfl
      · cases r with
        | nil => rfl
        | cons e r' => simp only; split <;> rfl
    have nxt : ∀ t r, m = t :: r → (t.kind == 2 || (t.kind == 1 && b)) = true → ¬ 8 < p.length + 1 → ∀ e r', (t.kind == 1) = false → r = e :: r' → isW wDot [e] = true → F = path z b b1 t0.at_ (p ++ [t.text]) r' := by
      intro t r hm hc h8 e r' hk hr hw
      subst hm hr
      rw [path_cons, if_pos hc, if_neg h8, if_neg (by rw [hk]; decide)] at hF
      simp only [hw, if_true] at hF
      exact hF
    cases p with
    | nil =>
      refine wp_eq2 (X_ppath2A_eq ..) (path_head hF fun t r hm hc => ?_)
      subst hm
      have h8 : ¬ 8 < ([] : List T).length + 1 := by simp
      refine wp_eq2 (X_ppath2As1_eq ..) ⟨_, _, _, _, row0, rfl, cut1, wp_stage (wp_if2 (fun h => absurd (of_decide_eq_true h) (by simp)) (fun _ => wp_done (wp_eq2 (X_ppath2As2_eq ..) ?_)))⟩
      exact path_tail (p' := [t.text]) (hg := hgm.cons.2) hd hB rfl (go t r rfl hc h8) (fun e r' hk hr hw => ⟨([t.text], r'), ⟨⟨nxt t r rfl hc h8 e r' hk hr hw, by simp, by subst hr; exact hgm.cons.2.cons.2⟩, by subst hr; simp; omega⟩, rfl⟩)
    | cons p0 p =>
      refine wp_eq2 (X_ppath2B_eq (p := pRows (p0 :: p)) ..) (path_head hF fun t r hm hc => ?_)
      subst hm
      refine wp_eq2 (X_ppath2Bs1_eq ..) ⟨_, _, _, _, row0, by rw [Nat.ble_eq]; simp at hp ⊢; omega, cut1, wp_stage (wp_if2 (fun h => ?_) (fun h => wp_done (wp_eq2 (X_ppath2Bs2_eq ..) ?_)))⟩
      · have h := of_decide_eq_true h
        simp only [List.length_append, List.length_map, List.length_cons, List.length_nil] at h
        refine ⟨rfl, wp_out (wp_out ⟨rfl, rq_no (l := r) (e := 3) ?_ (by decide)⟩)⟩
        rw [hF, path_cons, if_pos hc, if_pos (by simp only [List.length_cons]; omega)]
      · have h := of_decide_eq_false h
        simp only [List.length_append, List.length_map, List.length_cons, List.length_nil] at h
        have h8 : ¬ 8 < (p0 :: p).length + 1 := by simp only [List.length_cons]; omega
        exact path_tail (p' := (p0 :: p) ++ [t.text]) (hg := hgm.cons.2) hd hB (by simp only [pRows, List.map_append]; rfl) (go t r rfl hc h8) (fun e r' hk hr hw => ⟨((p0 :: p) ++ [t.text], r'), ⟨⟨nxt t r rfl hc h8 e r' hk hr hw, by simp; omega, by subst hr; exact hgm.cons.2.cons.2⟩, by subst hr; simp; omega⟩, by
          simp only [pY, List.cons_append, pRows, List.map_cons, List.map_append]; rfl⟩)
end Go.Proofs
end

section
/- PARSE: the program's reader: Path; types -/
set_option linter.unusedVariables false
set_option linter.unusedSimpArgs false
set_option maxRecDepth 100000
open Go Go.Eng Go.Pa
open Go.Lx (T Tok)
namespace Go.Proofs
theorem rc_lift {α : Type} {v : α → AV} {F : Res α} {z d : Nat} {g : FuncId} {args : List AV} {l : List Tok} {K : Heap} (c : RC v F z d g args (rH l z d)) (ha : Inv1 args) (hv : ∀ a k, (v a).ren (rho1 k) = v a) (hk : lowss (1 + K.length) K = true) :
    (∃ a m, F = .ok a m ∧ Gd m ∧ evp g args .none (hp5 (tks l) z 0 0 d :: K) = some ⟨.ret (v a), .none, hp5 (tks m) z 0 0 d :: K⟩) ∨ (∃ (e p : Nat) (m : List Tok), F = .no e p ∧ e ≠ 0 ∧ evp g args .none (hp5 (tks l) z 0 0 d :: K) = some ⟨.panic failV, .none, hp5 (tks m) z e p d :: K⟩) := by
  obtain ⟨r, h1, h2⟩ := c
  cases hF : F with
  | ok a m =>
    rw [hF] at h2
    obtain ⟨hg, rfl⟩ := h2
    exact .inl ⟨a, m, rfl, hg, lift5 h1 ha (fun k => by simp only [renOut, hv]) hk⟩
  | no e p =>
    rw [hF] at h2
    obtain ⟨he, m, rfl⟩ := h2
    exact .inr ⟨e, p, m, rfl, he, lift5 h1 ha (fun k => rfl) hk⟩
theorem inv_ptr : Inv1 [.ptr 0 0] := fun _ => rfl
/-! ### types -/
theorem low_ty (n : Nat) (t : Ty) : lowss n (tyP t) = true ∧ lowss n (tyQ t) = true := by
  have := low_avs n t.row
  rw [ty_row] at this
  simp only [lows, AV.low, Bool.and_eq_true] at this
  exact ⟨this.2.2.1, this.2.2.2.1⟩
theorem ren_tyV (ρ : Nat → Nat) (t : Ty) : (tyV t).ren ρ = tyV t := by
  simp only [tyV, AV.ren, ren_avs]
theorem tyV_eq (t : Ty) : .agg [vI (tyK t), vS (tyN t), .slice 1 (tyP t) .no, .slice 4 (tyQ t) .no] = tyV t := by rw [tyV, ty_row]
/-- A method that guards a rule: at the outermost one the failure ends. -/
def Rm {α : Type} (v : α → AV) (v0 : AV) (F : Res α) (z d : Nat) (r : CRes) : Prop :=
  match F with
  | .ok a l => Gd l ∧ r = ⟨.ret (v a), .none, rH l z d⟩
  | .no e p => e ≠ 0 ∧ ∃ l : List Tok, r = if d = 0 then ⟨.ret v0, .none, rB (tks l) z e p d⟩ else ⟨.panic failV, .none, rB (tks l) z e p d⟩
def RM' {α : Type} (v : α → AV) (v0 : AV) (F : Res α) (z d : Nat) (g : FuncId) (args : List AV) (H : Heap) : Prop := ∃ r, evp g args .none H = some r ∧ Rm v v0 F z d r
theorem rm_pos {α : Type} {v : α → AV} {v0 : AV} {F : Res α} {z d : Nat} {g : FuncId} {args : List AV} {H : Heap} (hd : 0 < d) (h : RM' v v0 F z d g args H) : RC v F z d g args H := by
  obtain ⟨r, h1, h2⟩ := h
  refine ⟨r, h1, ?_⟩
  cases F with
  | ok a l => exact h2
  | no e p =>
    obtain ⟨he, l, h3⟩ := h2
    rw [if_neg (by omega)] at h3
    exact ⟨he, l, h3⟩
theorem rm_ok {α : Type} {v : α → AV} {v0 : AV} {F : Res α} {z d : Nat} {a : α} {l : List Tok} {x : AV} (h : F = .ok a l) (hg : Gd l) (hx : x = v a) : Rm v v0 F z d ⟨.ret x, .none, rH l z d⟩ := by
  subst h hx; exact ⟨hg, rfl⟩
theorem rm_no {α : Type} {v : α → AV} {v0 : AV} {F : Res α} {z d e p : Nat} {l : List Tok} (hd : ¬ d = 0) (h : F = .no e p) (he : e ≠ 0) : Rm v v0 F z d ⟨.panic failV, .none, rB (tks l) z e p d⟩ := by
  subst h; exact ⟨he, l, by rw [if_neg hd]⟩
theorem rm_no0 {α : Type} {v : α → AV} {v0 : AV} {F : Res α} {z d e p : Nat} {l : List Tok} (hd : d = 0) (h : F = .no e p) (he : e ≠ 0) : Rm v v0 F z d ⟨.ret v0, .none, rB (tks l) z e p d⟩ := by
  subst h; exact ⟨he, l, by rw [if_pos hd]⟩
theorem decpos {d : Nat} : decide ((d : Int) > 0) = true → ¬ d = 0 := fun h => by have := of_decide_eq_true h; omega
theorem dec0 {d : Nat} : decide ((d : Int) > 0) = false → d = 0 := fun h => by have := of_decide_eq_false h; omega
abbrev ty0 : AV := .agg [vI 0, vS ⟨#[]⟩, .slice 1 [] .no, .slice 4 [] .no]
/-- The types' rules, by fuel. -/
structure PT (z n : Nat) : Prop where
  ty : ∀ {l : List Tok} {d : Nat}, Gd l → 0 < d → 8 * l.length + 3 ≤ n → d + n < BIG → RC tyV (pTy z n l) z d f_parsecore_Reader_ty [.ptr 0 0] (rH l z d)
  pair : ∀ {l : List Tok} {d : Nat}, Gd l → 0 < d → 8 * l.length + 2 ≤ n → d + n < BIG → RC tyV (pPair z n l) z d f_parsecore_Reader_pairty [.ptr 0 0] (rH l z d)
  aty : ∀ {l : List Tok} {d : Nat}, Gd l → 0 < d → 8 * l.length + 1 ≤ n → d + n < BIG → RC tyV (pAty z n l) z d f_parsecore_Reader_aty [.ptr 0 0] (rH l z d)
theorem ty_guard {z d : Nat} {l : List Tok} {F : Res Ty} (hB : d < BIG) (c : RC tyV F z (d + 1) f_parsecore_Reader_ty [.ptr 0 0] (rH l z (d + 1))) : RM' tyV ty0 F z d f_parsecore_Reader_Ty [.ptr 0 0] (rH l z d) := by
  have h1 := wrapU hB
  have h2 := wrapD hB
  refine kt5_ex (wp_eq2 (X_pTy_eq ..) (wp_stage (wp_if2 nf fun _ => wp_if2 (fun h => absurd h (by decide)) fun _ => wp_done (wp_eq2 (X_pTys1_eq ..) ?_))))
  rw [h1]
  rcases rc_lift (K := [[vI 0, vS ⟨#[]⟩, .slice 0 [] .full, .slice 0 [] .full]]) c inv_ptr (fun a k => ren_tyV _ a) rfl with ⟨t, m, hF, hg, c⟩ | ⟨e, p, m, hF, he, c⟩
  · simp only [tyV, ty_row] at c
    refine .inl ⟨_, _, _, _, _, _, _, _, _, _, _, [], [], c, wp_if2 (fun _ => ⟨(low_ty 1 t).1, (low_ty 1 t).2, lows_tks .., rfl, ?_⟩) tf⟩
    rw [h2]; exact rm_ok hF hg (tyV_eq t)
  · refine .inr ⟨_, _, _, _, _, _, _, [], [], c, wp_if2 nf fun _ => wp_if2 (fun _ => wp_if2 (fun h => ⟨lows_tks .., rfl, ?_⟩) (fun h => ⟨rfl, rfl, lows_tks .., rfl, ?_⟩)) tf⟩
    · rw [h2] at h ⊢; exact rm_no (decpos h) hF he
    · rw [h2] at h ⊢; exact rm_no0 (dec0 h) hF he
theorem PT.Ty {z n : Nat} (h : PT z n) {l : List Tok} {d : Nat} (hg : Gd l) (hn : 8 * l.length + 3 ≤ n) (hB : d + n + 1 < BIG) : RM' tyV ty0 (pTy z n l) z d f_parsecore_Reader_Ty [.ptr 0 0] (rH l z d) :=
  ty_guard (by omega) (h.ty hg (Nat.succ_pos d) hn (by omega))
end Go.Proofs
end

section
open Go Go.Eng
namespace Go.Proofs
noncomputable def shL6 : List (Nat × KM) := [(f_tree_walker_tys, .con (some (.arg 0)) none true),
  (f_tree_walker_pats, .con (some (.arg 0)) none true),
  (f_tree_walker_exps, .con (some (.arg 0)) none true),
  (f_tree_ty, .con (some (resSh Pg f_tree_ty)) (some (y_tree_wrong, .int .i64)) false),
  (f_tree_pat, .con (some (resSh Pg f_tree_pat)) (some (y_tree_wrong, .int .i64)) false),
  (f_tree_exp, .con (some (resSh Pg f_tree_exp)) (some (y_tree_wrong, .int .i64)) false),
  (f_tree_caught, .inl true),
  (f_waferref04_tysDepth, .con (some (resSh Pg f_waferref04_tysDepth)) none false),
  (f_waferref04_patsDepth, .con (some (resSh Pg f_waferref04_patsDepth)) none false),
  (f_waferref04_expsDepth, .con (some (resSh Pg f_waferref04_expsDepth)) none false),
  (f_waferref04_decsDepth, .con (some (resSh Pg f_waferref04_decsDepth)) none false),
  (f_waferref04_consDepth, .con (some (resSh Pg f_waferref04_consDepth)) none false),
  (f_waferref04_modsDepth, .con (some (resSh Pg f_waferref04_modsDepth)) none false),
  (f_waferref04_sigsDepth, .con (some (resSh Pg f_waferref04_sigsDepth)) none false),
  (f_waferref04_specsDepth, .con (some (resSh Pg f_waferref04_specsDepth)) none false),
  (f_waferref04_ty, .con (some (resSh Pg f_waferref04_ty)) none false),
  (f_waferref04_pat, .con (some (resSh Pg f_waferref04_pat)) none false),
  (f_waferref04_exp, .con (some (resSh Pg f_waferref04_exp)) none false),
  (f_waferref04_last, .con (some (resSh Pg f_waferref04_last)) none false),
  (f_waferref04_name, .con (some (resSh Pg f_waferref04_name)) none false),
  (f_waferref04_con, .con (some (resSh Pg f_waferref04_con)) none false),
  (f_waferref04_pats, .con (some (resSh Pg f_waferref04_pats)) none false),
  (f_waferref04_exps, .con (some (resSh Pg f_waferref04_exps)) none false),
  (f_waferref04_decs, .con (some (resSh Pg f_waferref04_decs)) none false),
  (f_waferref04_tys, .con (some (resSh Pg f_waferref04_tys)) none false),
  (f_waferref04_dec, .con (some (resSh Pg f_waferref04_dec)) none false),
  (f_waferref04_cons, .con (some (resSh Pg f_waferref04_cons)) none false),
  (f_waferref04_mods, .con (some (resSh Pg f_waferref04_mods)) none false),
  (f_waferref04_mod, .con (some (resSh Pg f_waferref04_mod)) none false),
  (f_waferref04_sigs, .con (some (resSh Pg f_waferref04_sigs)) none false),
  (f_waferref04_sig, .con (some (resSh Pg f_waferref04_sig)) none false),
  (f_waferref04_spec, .con (some (resSh Pg f_waferref04_spec)) none false),
  (f_waferref04_texts, .con (some (resSh Pg f_waferref04_texts)) none false),
  (f_waferref04_tysSame, .con (some (resSh Pg f_waferref04_tysSame)) none false),
  (f_waferref04_patsSame, .con (some (resSh Pg f_waferref04_patsSame)) none false),
  (f_waferref04_expsSame, .con (some (resSh Pg f_waferref04_expsSame)) none false),
  (f_waferref04_decsSame, .con (some (resSh Pg f_waferref04_decsSame)) none false),
  (f_waferref04_consSame, .con (some (resSh Pg f_waferref04_consSame)) none false),
  (f_waferref04_modsSame, .con (some (resSh Pg f_waferref04_modsSame)) none false),
  (f_waferref04_sigsSame, .con (some (resSh Pg f_waferref04_sigsSame)) none false),
  (f_waferref04_specsSame, .con (some (resSh Pg f_waferref04_specsSame)) none false),
  (f_waferref02_Reserved, .con (some (resSh Pg f_waferref02_Reserved)) none false),
  (f_waferref02_low, .con (some (resSh Pg f_waferref02_low)) none false),
  (f_waferref02_high, .con (some (resSh Pg f_waferref02_high)) none false),
  (f_waferref02_digit, .con (some (resSh Pg f_waferref02_digit)) none false),
  (f_waferref02_Right, .con (some (resSh Pg f_waferref02_Right)) none false),
  (f_waferref02_Upper, .con (some (resSh Pg f_waferref02_Upper)) none false),
  (f_waferref02_Tyvar, .con (some (resSh Pg f_waferref02_Tyvar)) none false),
  (f_waferref02_Path, .con (some (resSh Pg f_waferref02_Path)) none false),
  (f_waferref02_Has, .con (some (resSh Pg f_waferref02_Has)) none false)]
noncomputable def sh6 : FuncId → KM := fun f => match shL6.lookup f with
  | some k => k
  | none => .inl false
@[irreducible] noncomputable def kc6 : KC := kcalls Pg cfg0 rs0 sh6 12
@[irreducible] noncomputable def kt6 (f : FuncId) (args : List AV) (H : Heap) : KT := ktree Pg cfg0 rs0 sh6 12 false f args .none H
@[irreducible] noncomputable def ktc6 (f : FuncId) (args : List AV) (H : Heap) : KT := ktree Pg cfg0 rs0 sh6 12 true f args .none H
theorem hkc6 {QD : List (St → Prop)} {QR : CRes → Prop} : KCS Pg cfg0 evp QD QR kc6 := by
  delta kc6
  exact kcalls_sound (ev_byCode hx0) 12 _
theorem kt6_ev {f : FuncId} {args : List AV} {H : Heap} {r : CRes} (h : (kt6 f args H).wp Pg cfg0 evp [] (fun x => x = r)) : evp f args .none H = some r := by
  delta kt6 at h
  obtain ⟨x, h1, rfl⟩ := ktree_sound (ev_byCode hx0) h
  exact h1
theorem ktc6_ev {f : FuncId} {args : List AV} {H : Heap} {r : CRes} (h : (ktc6 f args H).wp Pg cfg0 evp [] (fun x => x = r)) : evp f args .none H = some r := by
  delta ktc6 at h
  obtain ⟨x, h1, rfl⟩ := ktree_sound (ev_byCode hx0) h
  exact h1
theorem loop6 {σ : Type} {t : KT} {QD : List (St → Prop)} {QR : CRes → Prop} (S : σ → St) (Inv : σ → Prop) (m : σ → Nat) (a0 : σ) (h0 : t.atLoop = some (S a0)) (hi : Inv a0)
    (hr : ∀ a, Inv a → (t.round Pg cfg0 rs0 kc6 (S a)).wp Pg cfg0 evp ((fun s => ∃ a', (Inv a' ∧ m a' < m a) ∧ s = S a') :: QD) QR) : t.wp Pg cfg0 evp QD QR :=
  kt_loop (rs := rs0) (kc := kc6) S Inv m a0 (fun _ => hkc6) h0 hi hr
end Go.Proofs
end
