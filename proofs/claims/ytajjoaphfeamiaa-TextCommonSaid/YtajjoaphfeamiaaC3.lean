/- TEXT: text.Same answers how much two texts have in common; the law TextCommon is true -/
import Derived.Test.YtajjoaphfeamiaaC1
open Go Go.Eng
namespace Go.Proofs
open Go.RowKit
set_option linter.unusedVariables false
set_option linter.unusedSimpArgs false
set_option maxRecDepth 100000
theorem y_Same (a b : ByteArray) : kt4 f_text_Same [vS a, vS b] [] = Y_Same a b := by delta Y_Same; rfl
theorem c_Same {a b : ByteArray} (ha : a.size ≤ 140737488351232) : evp f_text_Same [vS a, vS b] .none [] = some ⟨.ret (vI ((lcp (tx a) (tx b) : Nat) : Int)), .none, []⟩ := by
  refine kt4_ev (wp_eq2 (y_Same ..) ?_)
  refine loop4 (fun i : Nat => ⟨tm2 28 [(0, (vS (a))), (1, (vS (b))), (5, (vI i))], lm2 28 [], ⟨[], [], .none, 0⟩⟩) (fun i => i ≤ a.size ∧ i ≤ b.size ∧ i + lcp ((tx a).drop i) ((tx b).drop i) = lcp (tx a) (tx b)) (fun i => a.size - i) 0 (by kernel_rfl) ⟨Nat.zero_le _, Nat.zero_le _, by simp⟩ ?_
  rintro i ⟨h1, h2, h3⟩
  refine wp_eq2 (X_SameR_eq a b i) (wp_if2 (fun h => ?_) (fun h => ?_))
  · have h := of_decide_eq_true h
    refine wp_if2 (fun k => ?_) (fun k => ?_)
    · have k := of_decide_eq_true k
      obtain ⟨c, r, hd, hc, hr⟩ := tx_at (s := a) (i := i) (by omega)
      obtain ⟨c', r', hd', hc', hr'⟩ := tx_at (s := b) (i := i) (by omega)
      rw [hd, hd', lcp] at h3
      refine wp_at hc (wp_at hc' (wp_if2 (fun e => ?_) (fun e => ?_)))
      · have e : c = c' := by
          rw [beq_iff_eq] at e
          exact UInt8.toNat_inj.1 (by omega)
        rw [if_pos e, hr, hr'] at h3
        rw [kw_succ (by omega)]
        exact wp_done ⟨i + 1, ⟨⟨by omega, by omega, by omega⟩, by omega⟩, rfl⟩
      · have e : c ≠ c' := by
          rintro rfl
          simp at e
        rw [if_neg e] at h3
        exact wp_out ⟨rfl, ret_eq (by rw [← h3]; rfl)⟩
    · have k := of_decide_eq_false k
      have : i = b.size := by omega
      refine wp_out ⟨rfl, ret_eq ?_⟩
      rw [← h3, List.drop_eq_nil_of_le (show (tx b).length ≤ i by rw [tx_len]; omega), lcp_nil]; rfl
  · have h := of_decide_eq_false h
    refine wp_out ⟨rfl, ret_eq ?_⟩
    rw [← h3, List.drop_eq_nil_of_le (show (tx a).length ≤ i by rw [tx_len]; omega)]; rfl
theorem c_alive : evp f_waferlaw01_alive [] .none [] = some ⟨.ret (vB true), .none, []⟩ :=
  ev_ext (e := fun args H => (xTrue args).map fun v => (Out.ret v, H)) rfl rfl
theorem law_Common {a b : ByteArray} (ha : a.size ≤ 140737488351232) (hb : b.size ≤ 140737488351232) : evp f_waferlaw01_TextCommon [vS a, vS b] .none [] = some ⟨.ret (vB true), .none, []⟩ := by
  have l1 := lcp_le (tx a) (tx b)
  have l2 := lcp_take (tx a) (tx b)
  have l3 := lcp_parts (tx a) (tx b)
  have s1 := c_Same (b := b) ha
  have s2 := c_Same (a := b) (b := a) hb
  have s3 := c_Same (b := a) ha
  rw [lcp_comm] at s2
  rw [lcp_self, tx_len] at s3
  rw [tx_len, tx_len] at l1
  generalize lcp (tx a) (tx b) = n at *
  refine kt4_ev (wp_eq2 (X_Common_eq a b) ⟨_, s1, wp_stage ?_⟩)
  refine wp_if2 (fun h => absurd (of_decide_eq_true h) (by omega)) (fun _ => ?_)
  refine wp_if2 (fun h => absurd (of_decide_eq_true h) (by omega)) (fun _ => ?_)
  refine wp_if2 (fun h => absurd (of_decide_eq_true h) (by omega)) (fun _ => ?_)
  refine ⟨by apply decide_eq_true; omega, by apply decide_eq_true; omega, ?_⟩
  have hx : ((a.extract (Int.toNat 0) ((n : Nat) : Int).toNat).toList == (b.extract (Int.toNat 0) ((n : Nat) : Int).toNat).toList) = true := by
    rw [beq_tx, tx_ext, tx_ext]
    apply decide_eq_true
    simpa using l2
  refine wp_if2 (fun h => by rw [hx] at h; cases h) (fun _ => ?_)
  refine ⟨_, s2, wp_if2 (fun h => by simp at h) (fun _ => ?_)⟩
  refine ⟨_, s3, wp_if2 (fun h => by simp at h) (fun _ => ?_)⟩
  refine wp_done (wp_eq2 (X_Commons1_eq a b n) ?_)
  refine wp_if2 (fun h => ⟨_, c_alive, rfl, rfl⟩) (fun h1 => ?_)
  refine wp_if2 (fun h => ⟨_, c_alive, rfl, rfl⟩) (fun h2 => ?_)
  have h1 : n ≠ a.size := by rintro rfl; simp at h1
  have h2 : n ≠ b.size := by rintro rfl; simp at h2
  obtain ⟨c, r, hd, hc, hr⟩ := tx_at (s := a) (i := n) (by omega)
  obtain ⟨c', r', hd', hc', hr'⟩ := tx_at (s := b) (i := n) (by omega)
  have hne := l3 c c' (tx_get hc) (tx_get hc')
  refine wp_at hc (wp_at hc' (wp_if2 (fun e => ⟨_, c_alive, rfl, rfl⟩) (fun e => ?_)))
  exfalso
  apply hne
  simp at e
  exact UInt8.toNat_inj.1 (by omega)
end Go.Proofs
