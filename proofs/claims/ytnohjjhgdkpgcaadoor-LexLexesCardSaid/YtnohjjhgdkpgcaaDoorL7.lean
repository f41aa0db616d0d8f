/- LEX: what the document's functions answer, part 1 -/
import Derived.Test.YtnohjjhgdkpgcaaDoorL3
import Derived.Test.YtnohjjhgdkpgcaaDoorXL4
open Go Go.Eng Go.Lx
namespace Go.Proofs
set_option linter.unusedVariables false
set_option linter.unusedSimpArgs false
set_option maxRecDepth 100000

theorem wrapU64 (n : Int) : IntKind.u64.wrap n = n % 18446744073709551616 := by simp [IntKind.wrap, IntKind.bits, IntKind.signed]
theorem contains_snoc {c : UInt8} {l : T} {m : UInt8} (h1 : l.contains c = false) (h2 : ¬ m = c) : (l ++ [m]).contains c = false := by
  have h3 : ¬ c ∈ l := by simpa using h1
  simp [h3]
  exact fun e => h2 e.symm
theorem t97 : (97 : UInt8).toNat = 97 := rfl
theorem t122 : (122 : UInt8).toNat = 122 := rfl
theorem t65 : (65 : UInt8).toNat = 65 := rfl
theorem t90 : (90 : UInt8).toNat = 90 := rfl
theorem t48 : (48 : UInt8).toNat = 48 := rfl
theorem t57 : (57 : UInt8).toNat = 57 := rfl
theorem c_rlow (c : UInt8) : evp f_waferref03_low [vY c] .none [] = some ⟨.ret (vB (low c)), .none, []⟩ := by
  refine kt3_ev (wp_eq2 (X_rlow_eq c) (wp_if2 (fun h => ⟨rfl, ret_eq (congrArg vB ?_)⟩) (fun h => ⟨rfl, ret_eq (congrArg vB ?_)⟩)))
  · have h := of_decide_eq_true h
    rw [Bool.eq_iff_iff]
    simp only [low, decide_eq_true_iff, Bool.and_eq_true, UInt8.le_iff_toNat_le, t97, t122]; omega
  · have h := of_decide_eq_false h
    rw [Bool.eq_iff_iff]
    simp only [low, decide_eq_true_iff, Bool.and_eq_true, UInt8.le_iff_toNat_le, t97, t122, Bool.false_eq_true, false_iff]; omega
theorem c_rhigh (c : UInt8) : evp f_waferref03_high [vY c] .none [] = some ⟨.ret (vB (high c)), .none, []⟩ := by
  refine kt3_ev (wp_eq2 (X_rhigh_eq c) (wp_if2 (fun h => ⟨rfl, ret_eq (congrArg vB ?_)⟩) (fun h => ⟨rfl, ret_eq (congrArg vB ?_)⟩)))
  · have h := of_decide_eq_true h
    rw [Bool.eq_iff_iff]
    simp only [high, decide_eq_true_iff, Bool.and_eq_true, UInt8.le_iff_toNat_le, t65, t90]; omega
  · have h := of_decide_eq_false h
    rw [Bool.eq_iff_iff]
    simp only [high, decide_eq_true_iff, Bool.and_eq_true, UInt8.le_iff_toNat_le, t65, t90, Bool.false_eq_true, false_iff]; omega
theorem c_rdigit (c : UInt8) : evp f_waferref03_digit [vY c] .none [] = some ⟨.ret (vB (digit c)), .none, []⟩ := by
  refine kt3_ev (wp_eq2 (X_rdigit_eq c) (wp_if2 (fun h => ⟨rfl, ret_eq (congrArg vB ?_)⟩) (fun h => ⟨rfl, ret_eq (congrArg vB ?_)⟩)))
  · have h := of_decide_eq_true h
    rw [Bool.eq_iff_iff]
    simp only [digit, decide_eq_true_iff, Bool.and_eq_true, UInt8.le_iff_toNat_le, t48, t57]; omega
  · have h := of_decide_eq_false h
    rw [Bool.eq_iff_iff]
    simp only [digit, decide_eq_true_iff, Bool.and_eq_true, UInt8.le_iff_toNat_le, t48, t57, Bool.false_eq_true, false_iff]; omega
theorem ceq (c k : UInt8) : ((c.toNat : Int) == (k.toNat : Int)) = (c == k) := by
  rw [Bool.eq_iff_iff]
  simp only [beq_iff_eq]
  constructor
  · intro h; exact UInt8.toNat_inj.1 (by omega)
  · rintro rfl; rfl
theorem c_rblank (c : UInt8) : evp f_waferref03_blank [vY c] .none [] = some ⟨.ret (vB (Lx.blank c)), .none, []⟩ := by
  have e1 : ((c.toNat : Int) == 32) = (c == 32) := ceq c 32
  have e2 : ((c.toNat : Int) == 9) = (c == 9) := ceq c 9
  have e3 : ((c.toNat : Int) == 10) = (c == 10) := ceq c 10
  have e4 : ((c.toNat : Int) == 13) = (c == 13) := ceq c 13
  refine kt3_ev (wp_eq2 (X_rblank_eq c) ?_)
  rw [e1, e2, e3, e4]
  refine wp_if2 (fun h => ⟨rfl, ret_eq (congrArg vB ?_)⟩) (fun h1 => wp_if2 (fun h => ⟨rfl, ret_eq (congrArg vB ?_)⟩) (fun h2 => wp_if2 (fun h => ⟨rfl, ret_eq (congrArg vB ?_)⟩) (fun h3 => ⟨rfl, ret_eq (congrArg vB ?_)⟩)))
  · simp [Lx.blank, h]
  · simp [Lx.blank, h]
  · simp [Lx.blank, h]
  · simp [Lx.blank, h1, h2, h3]

theorem c_rtwo {s p : ByteArray} {a : Nat} (hs : s.size < BIG) (ha : a ≤ s.size) (hp : (tx p).length = 2) : evp f_waferref03_two [vS s, vI a, vS p] .none [] = some ⟨.ret (vB (pre (tx p) ((tx s).drop a))), .none, []⟩ := by
  refine kt3_ev (wp_eq2 (X_rtwo_eq s a p) ?_)
  rw [kw_two (by omega)]
  refine wp_if2 (fun h => ?_) (fun h => ?_)
  · have h := of_decide_eq_true h
    refine ⟨by apply decide_eq_true; omega, rfl, ret_eq (congrArg vB ?_)⟩
    rw [Int.toNat_natCast, Int.toNat_natCast, beq_tx, tx_ext_n, pre_take, hp, List.length_drop, tx_len]
    simp only [decide_eq_decide]
    exact ⟨fun e => ⟨by omega, e⟩, fun e => e.2⟩
  · have h := of_decide_eq_false h
    refine ⟨rfl, ret_eq (congrArg vB ?_)⟩
    rw [pre_take, hp, List.length_drop, tx_len]
    symm
    rw [decide_eq_false_iff_not]
    rintro ⟨e, _⟩; omega
theorem c_ropens {s : ByteArray} {i : Nat} (hs : s.size < BIG) (ha : i ≤ s.size) : evp f_waferref03_two [vS s, vI i, vS ⟨#[40, 42]⟩] .none [] = some ⟨.ret (vB (Lx.opens ((tx s).drop i))), .none, []⟩ := by
  rw [c_rtwo hs ha rfl, ← pre_opens]
theorem c_rcloses {s : ByteArray} {i : Nat} (hs : s.size < BIG) (ha : i ≤ s.size) : evp f_waferref03_two [vS s, vI i, vS ⟨#[42, 41]⟩] .none [] = some ⟨.ret (vB (Lx.closes ((tx s).drop i))), .none, []⟩ := by
  rw [c_rtwo hs ha rfl, ← pre_closes]

theorem y_rremark (s : ByteArray) (a : Nat) : kt3 f_waferref03_remark [vS s, vI a] [] = Y_rremark s a := by delta Y_rremark; rfl
theorem c_rremark {s : ByteArray} {a : Nat} (hs : s.size < BIG) (ha : a ≤ s.size) (ho : Lx.opens ((tx s).drop a) = true) : evp f_waferref03_remark [vS s, vI a] .none [] = some ⟨.ret (vI (remA a (rem ((tx s).drop a) 0))), .none, []⟩ := by
  refine kt3_ev (wp_eq2 (y_rremark ..) ?_)
  refine loop3 (fun x : Nat × Nat => ⟨tm2 31 [(0, vS s), (1, vI x.1), (5, vI x.2)], lm2 31 [], ⟨[], [], .none, 0⟩⟩)
    (fun x => a ≤ x.1 ∧ x.1 ≤ s.size ∧ remA x.1 (rem ((tx s).drop x.1) x.2) = remA a (rem ((tx s).drop a) 0) ∧ x.2 ≤ x.1 ∧ (x.2 = 0 → Lx.opens ((tx s).drop x.1) = true)) (fun x => s.size - x.1) (a, 0) (by kernel_rfl) ⟨Nat.le_refl _, ha, rfl, Nat.zero_le _, fun _ => ho⟩ ?_
  rintro ⟨i, d⟩ ⟨h1, h2, h3, h4, h5⟩
  simp only at h1 h2 h3 h4 h5
  refine wp_eq2 (X_rremarkR_eq s a i d) (wp_if2 (fun h => ?_) (fun h => ?_))
  · have h := of_decide_eq_true h
    obtain ⟨c, r, hd, hc, hr⟩ := tx_at (s := s) (i := i) (by omega)
    have hr2 : r.drop 1 = (tx s).drop (i + 2) := by rw [hr, List.drop_drop]
    have hl2 : ∀ {q : Nat → Nat} {x : Option Nat} {n : Nat}, remA i (x.map (· + n)) = remA (i + n) x := by
      intro q x n
      cases x with
      | none => rfl
      | some y => simp only [Option.map_some, remA]; congr 1; omega
    have hlen : (tx s).drop i = c :: r → r ≠ [] → i + 2 ≤ s.size := by
      intro e hne
      have := congrArg List.length e
      cases r with
      | nil => exact absurd rfl hne
      | cons x r => simp only [List.length_drop, tx_len, List.length_cons] at this; omega
    rw [hd, rem_cons] at h3
    refine ⟨_, c_ropens hs h2, wp_if2 (fun hb => ?_) (fun hb => ?_)⟩
    · rw [hd] at hb
      have hne : r ≠ [] := by rintro rfl; rw [opens_eq] at hb; simp at hb
      rw [if_pos hb, hr2, hl2 (q := id)] at h3
      rw [kw_two (by omega), kw_succ' (by omega)]
      exact wp_done ⟨(i + 2, d + 1), ⟨⟨by simp only; omega, hlen hd hne, h3, by simp only; omega, fun h => by simp at h⟩, by simp only; omega⟩, rfl⟩
    · rw [hd] at hb
      have hd0 : 1 ≤ d := by
        rcases Nat.eq_zero_or_pos d with e | e
        · rw [hd, hb] at h5; exact absurd (h5 e) (by decide)
        · exact e
      rw [if_neg (by rw [hb]; decide)] at h3
      have hw : IntKind.i64.wrap ((d : Int) - 1) = ((d - 1 : Nat) : Int) := by rw [IntKind.wrap_i64]; unfold BIG at hs; omega
      refine ⟨_, c_rcloses hs h2, wp_if2 (fun hb2 => ?_) (fun hb2 => ?_)⟩
      · rw [hd] at hb2
        have hne : r ≠ [] := by rintro rfl; rw [closes_eq] at hb2; simp at hb2
        rw [if_pos hb2] at h3
        rw [hw, kw_two (by omega)]
        refine wp_if2 (fun hz => ?_) (fun hz => ?_)
        · have hz : ((d - 1 : Nat) : Int) = 0 := by simpa using hz
          rw [if_pos (by omega)] at h3
          exact wp_out ⟨rfl, ret_eq (by rw [← h3]; rfl)⟩
        · have hz : ¬ ((d - 1 : Nat) : Int) = 0 := by simpa using hz
          rw [if_neg (by omega), hr2, hl2 (q := id)] at h3
          exact wp_done ⟨(i + 2, d - 1), ⟨⟨by simp only; omega, hlen hd hne, h3, by simp only; omega, fun h => by simp only at h; omega⟩, by simp only; omega⟩, rfl⟩
      · rw [hd] at hb2
        rw [if_neg (by rw [hb2]; decide), hr, hl2 (q := id)] at h3
        rw [kw_succ' (by omega)]
        exact wp_done ⟨(i + 1, d), ⟨⟨by simp only; omega, by simp only; omega, h3, by simp only; omega, fun h => by simp only at h; omega⟩, by simp only; omega⟩, rfl⟩
  · have h := of_decide_eq_false h
    have : i = s.size := by omega
    subst this
    refine wp_out ⟨rfl, ret_eq ?_⟩
    rw [← h3, List.drop_eq_nil_of_le (by rw [tx_len]; omega), rem_nil]; rfl

theorem y_rskip (s : ByteArray) (a : Nat) : kt3 f_waferref03_skip [vS s, vI a] [] = Y_rskip s a := by delta Y_rskip; rfl
theorem c_rskip {s : ByteArray} {a : Nat} (hs : s.size < BIG) (ha : a ≤ s.size) : evp f_waferref03_skip [vS s, vI a] .none [] = some ⟨.ret (.tuple [vI ((a + (skp ((tx s).drop a)).1 : Nat) : Int), vB (skp ((tx s).drop a)).2]), .none, []⟩ := by
  refine kt3_ev (wp_eq2 (y_rskip ..) ?_)
  refine loop3 (fun i : Nat => ⟨tm2 30 [(0, vS s), (1, vI i)], lm2 30 [], ⟨[], [], .none, 0⟩⟩)
    (fun i => a ≤ i ∧ i ≤ s.size ∧ i + (skp ((tx s).drop i)).1 = a + (skp ((tx s).drop a)).1 ∧ (skp ((tx s).drop i)).2 = (skp ((tx s).drop a)).2) (fun i => s.size - i) a (by kernel_rfl) ⟨Nat.le_refl _, ha, rfl, rfl⟩ ?_
  rintro i ⟨h1, h2, h3, h4⟩
  rw [← h3, ← h4]
  refine wp_eq2 (X_rskipR_eq s a i) (wp_if2 (fun h => ?_) (fun h => ?_))
  · have h := of_decide_eq_true h
    obtain ⟨c, r, hd, hc, hr⟩ := tx_at (s := s) (i := i) (by omega)
    refine wp_at hc ⟨_, c_rblank c, wp_if2 (fun hb => ?_) (fun hb => ?_)⟩
    · rw [hd, skp_cons, if_pos hb] at h3 h4 ⊢
      rw [hr] at h3 h4 ⊢
      rw [kw_succ' (by omega)]
      exact wp_done ⟨i + 1, ⟨⟨by omega, by omega, by simp only at h3 ⊢; omega, rfl⟩, by omega⟩, rfl⟩
    · refine ⟨_, c_ropens hs h2, wp_if2 (fun ho => ?_) (fun ho => ?_)⟩
      · have ho : Lx.opens ((tx s).drop i) = false := by simpa using ho
        rw [hd] at ho
        rw [hd, skp_cons, if_neg (by rw [hb]; decide), if_neg (by rw [ho]; decide)]
        exact wp_out ⟨rfl, rfl⟩
      · have ho : Lx.opens ((tx s).drop i) = true := by simpa using ho
        refine ⟨_, c_rremark hs h2 ho, ?_⟩
        rw [hd] at ho ⊢
        rw [hd, skp_cons, if_neg (by rw [hb]; decide), if_pos ho] at h3 h4
        rw [skp_cons, if_neg (by rw [hb]; decide), if_pos ho]
        cases hrm : rem (c :: r) 0 with
        | none =>
          simp only
          refine wp_if2 (fun hz => ?_) (fun hz => ?_)
          · exact wp_out ⟨rfl, rfl⟩
          · simp [remA] at hz
        | some n =>
          simp only [hrm] at h3 h4 ⊢
          have hn := rem_bound hrm
          have hl := congrArg List.length hd
          simp only [List.length_drop, tx_len, List.length_cons] at hl hn
          refine wp_if2 (fun hz => ?_) (fun hz => ?_)
          · have := of_decide_eq_true hz; simp only [remA] at this; omega
          · have he : r.drop (n - 1) = (tx s).drop (i + n) := by rw [drop_pred c r (by omega), ← hd, List.drop_drop]
            rw [he] at h3 h4 ⊢
            exact wp_done ⟨i + n, ⟨⟨by omega, by omega, by omega, rfl⟩, by omega⟩, rfl⟩
  · have h := of_decide_eq_false h
    have : i = s.size := by omega
    subst this
    rw [List.drop_eq_nil_of_le (by rw [tx_len]; omega), skp_nil]
    exact wp_out ⟨rfl, rfl⟩

def runB (w : Bool) : UInt8 → Bool := if w then wordB else tyvB
theorem y_rrun (s : ByteArray) (a : Nat) (w : Bool) : kt3 f_waferref03_run [vS s, vI a, vB w] [] = Y_rrun s a w := by delta Y_rrun; rfl
theorem c_rrun {s : ByteArray} {a : Nat} (w : Bool) (hs : s.size < BIG) (ha : a ≤ s.size) : evp f_waferref03_run [vS s, vI a, vB w] .none [] = some ⟨.ret (vI ((a + span (runB w) ((tx s).drop a) : Nat) : Int)), .none, []⟩ := by
  refine kt3_ev (wp_eq2 (y_rrun ..) ?_)
  refine loop3 (fun i : Nat => ⟨tm2 41 [(0, vS s), (1, vI i), (2, vB w)], lm2 41 [], ⟨[], [], .none, 0⟩⟩) (fun i => a ≤ i ∧ i ≤ s.size ∧ i + span (runB w) ((tx s).drop i) = a + span (runB w) ((tx s).drop a)) (fun i => s.size - i) a (by kernel_rfl) ⟨Nat.le_refl _, ha, rfl⟩ ?_
  rintro i ⟨h1, h2, h3⟩
  refine wp_eq2 (X_rrunR_eq s a i w) (wp_if2 (fun h => ?_) (fun h => ?_))
  · have h := of_decide_eq_true h
    obtain ⟨c, r, hd, hc, hr⟩ := tx_at (s := s) (i := i) (by omega)
    rw [hd, span] at h3
    have e95 : ((c.toNat : Int) == 95) = (c == 95) := ceq c 95
    have yes : runB w c = true → i + 1 + span (runB w) ((tx s).drop (i + 1)) = a + span (runB w) ((tx s).drop a) := fun hb => by
      rw [if_pos hb, hr] at h3; omega
    have no : runB w c = false → i = a + span (runB w) ((tx s).drop a) := fun hb => by
      rw [if_neg (by rw [hb]; decide)] at h3; omega
    have go : ∀ {QD : List (St → Prop)} {QR : CRes → Prop}, runB w c = true → (KT.done ⟨tm2 41 [(0, (vS (s))), (1, (vI (IntKind.i64.wrap ((↑i : Int) + 1)))), (2, (vB (w)))], lm2 41 [], ⟨[], [], .none, 0⟩⟩).wp Pg cfg0 evp ((fun s_1 => ∃ a', ((a ≤ a' ∧ a' ≤ s.size ∧ a' + span (runB w) ((tx s).drop a') = a + span (runB w) ((tx s).drop a)) ∧ s.size - a' < s.size - i) ∧ s_1 = ⟨tm2 41 [(0, vS s), (1, vI (a' : Nat)), (2, vB w)], lm2 41 [], ⟨[], [], .none, 0⟩⟩) :: QD) QR := fun {QD QR} hb => by
      rw [kw_succ' (by omega)]
      exact wp_done ⟨i + 1, ⟨⟨by omega, by omega, yes hb⟩, by omega⟩, rfl⟩
    have stop : runB w c = false → (⟨.ret (vI (i : Int)), .none, []⟩ : CRes) = ⟨.ret (vI ((a + span (runB w) ((tx s).drop a) : Nat) : Int)), .none, []⟩ := fun hb => ret_eq (by rw [← no hb])
    refine wp_at hc ⟨_, c_rlow c, wp_if2 (fun hl => go ?_) (fun hl => wp_at hc ⟨_, c_rdigit c, wp_if2 (fun hg => go ?_) (fun hg => wp_if2 (fun hw => wp_at hc ⟨_, c_rhigh c, wp_if2 (fun hh => go ?_) (fun hh => wp_at hc ?_)⟩) (fun hw => wp_out ⟨rfl, stop ?_⟩))⟩)⟩
    · cases w <;> simp [runB, wordB, tyvB, hl]
    · cases w <;> simp [runB, wordB, tyvB, hg]
    · rw [hw]; simp [runB, wordB, hh]
    · rw [e95]
      refine wp_if2 (fun h9 => go ?_) (fun h9 => wp_out ⟨rfl, stop ?_⟩)
      · rw [hw]; simp [runB, wordB, h9]
      · rw [hw]; simp [runB, wordB, hl, hg, hh, h9]
    · rw [hw]; simp [runB, tyvB, hl, hg]
  · have h := of_decide_eq_false h
    have : i = s.size := by omega
    subst this
    refine wp_out ⟨rfl, ret_eq ?_⟩
    rw [← h3, List.drop_eq_nil_of_le (by rw [tx_len]; omega)]; rfl

/-! ### the words -/
def wrow (w : T) : List AV := [vS ⟨w.toArray⟩]
theorem y_Has (l : List (List AV)) (s : ByteArray) : kt3 f_waferref02_Has [.slice 1 l .full, vS s] [] = Y_Has l s := by delta Y_Has; rfl
theorem c_Has {ws : List T} {s : ByteArray} (hw : ws.length < BIG) : evp f_waferref02_Has [.slice 1 (ws.map wrow) .full, vS s] .none [] = some ⟨.ret (vB (ws.any fun w => decide (tx s = w))), .none, []⟩ := by
  refine kt3_ev (wp_eq2 (y_Has ..) ?_)
  refine loop3 (fun i : Nat => ⟨tm2 18 [(0, (.slice 1 (ws.map wrow) .full)), (1, vS s), (5, vI i)], lm2 18 [], ⟨[], [], .none, 0⟩⟩) (fun i => i ≤ ws.length ∧ (ws.take i).any (fun w => decide (tx s = w)) = false) (fun i => ws.length - i) 0 (by kernel_rfl) ⟨Nat.zero_le _, rfl⟩ ?_
  rintro i ⟨h1, h2⟩
  refine wp_eq2 (X_HasR_eq _ s i) (wp_if2 (fun h => ?_) (fun h => ?_))
  · have h := of_decide_eq_true h
    rw [List.length_map] at h
    have hi : i < ws.length := by omega
    have hrow : (ws.map wrow)[(i : Int).toNat]? = some [vS ⟨(ws[i]).toArray⟩] := by rw [Int.toNat_natCast]; simp [hi, wrow]
    refine ⟨_, ⟨Int.natCast_nonneg i, hrow⟩, ?_⟩
    have ht : tx ⟨(ws[i]).toArray⟩ = ws[i] := by simp [tx]
    rw [beq_tx, ht]
    refine wp_if2 (fun he => ?_) (fun he => ?_)
    · have he := of_decide_eq_true he
      refine wp_out ⟨rfl, ret_eq (congrArg vB ?_)⟩
      symm
      rw [List.any_eq_true]
      exact ⟨ws[i], List.getElem_mem hi, decide_eq_true he.symm⟩
    · have he := of_decide_eq_false he
      rw [kw_succ' (by omega)]
      refine wp_done ⟨i + 1, ⟨⟨by omega, ?_⟩, by omega⟩, rfl⟩
      rw [List.take_succ_eq_append_getElem hi, List.any_append, h2]
      simp
      exact fun e => he e.symm
  · have h := of_decide_eq_false h
    rw [List.length_map] at h
    rw [List.take_of_length_le (by omega)] at h2
    exact wp_out ⟨rfl, ret_eq (congrArg vB h2.symm)⟩
theorem c_rReserved (s : ByteArray) : evp f_waferref02_Reserved [vS s] .none [] = some ⟨.ret (vB (resP (tx s))), .none, []⟩ :=
  kt3_ev (wp_eq2 (X_rReserved_eq s) ⟨rfl, _, c_Has (ws := words) (by decide), rfl, rfl⟩)

/-! ### numbers -/
theorem y_rnumber (s : ByteArray) : kt3 f_waferref03_number [vS s] [] = Y_rnumber s := by delta Y_rnumber; rfl
def numV : Option Nat → AV
  | some v => .tuple [vI v, vB true]
  | none => .tuple [vI 0, vB false]
theorem c_rnumber {s : ByteArray} (hs : s.size < BIG) (hd : ∀ c ∈ tx s, digit c = true) : evp f_waferref03_number [vS s] .none [] = some ⟨.ret (numV (numFrom 0 (tx s))), .none, []⟩ := by
  refine kt3_ev (wp_eq2 (y_rnumber ..) ?_)
  refine loop3 (fun x : Nat × Nat => ⟨tm2 29 [(0, vS s), (4, (.val (.int .u64 x.1))), (5, vI x.2)], lm2 29 [], ⟨[], [], .none, 0⟩⟩) (fun x => x.2 ≤ s.size ∧ x.1 ≤ 9223372036854775807 ∧ numFrom x.1 ((tx s).drop x.2) = numFrom 0 (tx s)) (fun x => s.size - x.2) (0, 0) (by kernel_rfl) ⟨Nat.zero_le _, by simp, by simp⟩ ?_
  rintro ⟨v, i⟩ ⟨h1, h2, h3⟩
  simp only at h1 h2 h3
  rw [← h3]
  refine wp_eq2 (X_rnumberR_eq s v i) (wp_if2 (fun h => ?_) (fun h => ?_))
  · have h := of_decide_eq_true h
    obtain ⟨c, r, hdr, hc, hr⟩ := tx_at (s := s) (i := i) (by omega)
    have hdig := digit_toNat.1 (hd c (List.mem_of_mem_drop (by rw [hdr]; simp)))
    have ed : IntKind.u64.wrap (IntKind.u8.wrap ((c.toNat : Int) - 48)) = ((c.toNat - 48 : Nat) : Int) := by rw [IntKind.wrap_u8, wrapU64]; omega
    have ec : IntKind.u64.wrap ((IntKind.u64.wrap (9223372036854775807 - ((c.toNat - 48 : Nat) : Int))).tdiv 10) = (((9223372036854775807 - (c.toNat - 48)) / 10 : Nat) : Int) := by
      have e1 : IntKind.u64.wrap (9223372036854775807 - ((c.toNat - 48 : Nat) : Int)) = ((9223372036854775807 - (c.toNat - 48) : Nat) : Int) := by rw [wrapU64]; omega
      rw [e1]
      rw [Int.tdiv_eq_ediv_of_nonneg (Int.natCast_nonneg _), wrapU64]; omega
    rw [hdr, numFrom]
    refine wp_at hc ?_
    rw [ed, ec]
    refine wp_if2 (fun hv => ?_) (fun hv => ?_)
    · have hv := of_decide_eq_true hv
      rw [if_neg (by omega)]
      exact wp_out ⟨rfl, rfl⟩
    · have hv := of_decide_eq_false hv
      have hle : 10 * v + (c.toNat - 48) ≤ 9223372036854775807 := by omega
      rw [if_pos hle, hr]
      have ev : IntKind.u64.wrap (IntKind.u64.wrap (10 * (v : Int)) + ((c.toNat - 48 : Nat) : Int)) = ((10 * v + (c.toNat - 48) : Nat) : Int) := by rw [wrapU64, wrapU64]; omega
      rw [ev, kw_succ' (by omega)]
      exact wp_done ⟨(10 * v + (c.toNat - 48), i + 1), ⟨⟨by simp only; omega, hle, rfl⟩, by simp only; omega⟩, rfl⟩
  · have h := of_decide_eq_false h
    rw [List.drop_eq_nil_of_le (by rw [tx_len]; omega), numFrom]
    have ev : IntKind.i64.wrap (v : Int) = (v : Int) := by rw [IntKind.wrap_i64]; omega
    rw [ev]
    exact wp_out ⟨rfl, rfl⟩

/-! ### marks -/
theorem y_rmarks1 (s : ByteArray) (a : Nat) : (X_rmark s a).K ⟨tm2 33 [(0, (vS (s))), (1, (vI ((↑a : Int))))], lm2 33 [], ⟨[], [], .none, 0⟩⟩ = Y_rmarks1 s a := by delta Y_rmarks1 X_rmark; rfl
theorem c_rmark {s : ByteArray} {a : Nat} {c : UInt8} {r : T} (hs : s.size < BIG) (hd : (tx s).drop a = c :: r) : evp f_waferref03_mark [vS s, vI a] .none [] = some ⟨.ret (vI (if two (c :: r) then 2 else if marks.contains c then 1 else 0)), .none, []⟩ := by
  obtain ⟨ha, hc, hr⟩ := tx_of hd
  have h2 : ∀ p : ByteArray, (tx p).length = 2 → evp f_waferref03_two [vS s, vI a, vS p] .none [] = some ⟨.ret (vB (pre (tx p) (c :: r))), .none, []⟩ := fun p hp => by rw [c_rtwo hs (Nat.le_of_lt ha) hp, hd]
  refine kt3_ev (wp_eq2 (X_rmark_eq s a) (wp_stage ⟨_, h2 _ rfl, wp_if2 (fun h => ?_) (fun q1 => ⟨_, h2 _ rfl, wp_if2 (fun h => ?_) (fun q2 => ⟨_, h2 _ rfl, wp_if2 (fun h => ?_) (fun q3 => ?_)⟩)⟩)⟩))
  · have : two (c :: r) = true := by rw [two_pre]; simp only [tx] at h; simp [h]
    rw [if_pos this]; exact wp_out ⟨rfl, rfl⟩
  · have : two (c :: r) = true := by rw [two_pre]; simp only [tx] at h; simp [h]
    rw [if_pos this]; exact wp_out ⟨rfl, rfl⟩
  · have : two (c :: r) = true := by rw [two_pre]; simp only [tx] at h; simp [h]
    rw [if_pos this]; exact wp_out ⟨rfl, rfl⟩
  · have : two (c :: r) = false := by rw [two_pre]; simp only [tx] at q1 q2 q3; simp [q1, q2, q3]
    rw [if_neg (by rw [this]; decide)]
    refine wp_done (wp_eq2 (y_rmarks1 s a) (loop3 (fun i : Nat => ⟨tm2 33 [(0, (vS (s))), (1, (vI ((↑a : Int)))), (5, (vS ((⟨#[40, 41, 44, 59, 58, 61, 42, 43, 45, 47, 60, 124, 95, 46]⟩ : ByteArray)))), (6, (vI i))], lm2 33 [], ⟨[], [], .none, 0⟩⟩)
      (fun i => i ≤ 14 ∧ (marks.take i).contains c = false) (fun i => 14 - i) 0 (by kernel_rfl) ⟨Nat.zero_le _, rfl⟩ ?_))
    rintro i ⟨h1, hm⟩
    have hsz : (⟨#[40, 41, 44, 59, 58, 61, 42, 43, 45, 47, 60, 124, 95, 46]⟩ : ByteArray).size = 14 := rfl
    refine wp_eq2 (X_rmarkR_eq s a i) ?_
    rw [hsz]
    refine wp_if2 (fun h => ?_) (fun h => ?_)
    · have h := of_decide_eq_true h
      have hi : i < marks.length := by have : marks.length = 14 := rfl; omega
      have hm1 : (⟨#[40, 41, 44, 59, 58, 61, 42, 43, 45, 47, 60, 124, 95, 46]⟩ : ByteArray)[i]? = some marks[i] := by
        rw [getElem?_pos _ i (by rw [hsz]; omega)]; rfl
      refine wp_at hm1 (wp_at hc ?_)
      rw [ceq]
      refine wp_if2 (fun he => ?_) (fun he => ?_)
      · have he : marks[i] = c := by simpa using he
        rw [if_pos (by rw [← he]; simp)]
        exact wp_out ⟨rfl, rfl⟩
      · have he : ¬ marks[i] = c := by simpa using he
        rw [kw_succ (by omega)]
        refine wp_done ⟨i + 1, ⟨⟨by omega, ?_⟩, by omega⟩, rfl⟩
        rw [List.take_succ_eq_append_getElem hi]
        exact contains_snoc hm he
    · have h := of_decide_eq_false h
      have hm3 : marks.take i = marks := List.take_of_length_le (by have : marks.length = 14 := rfl; omega)
      rw [hm3] at hm
      rw [if_neg (by rw [hm]; decide)]
      exact wp_out ⟨rfl, rfl⟩
end Go.Proofs
