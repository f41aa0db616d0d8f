/- the checks of names and paths, further -/
import Derived.Test.YtgimppnhjfjeaaaW4a
open Go Go.Eng
namespace Go.Proofs
set_option linter.unusedVariables false
set_option linter.unusedSimpArgs false
set_option maxRecDepth 100000
def SMALL : Nat := 4611686018427387904
section
variable {QD : List (St → Prop)} {QR : CRes → Prop}
theorem wp_Right {s : ByteArray} {k : Int → KT} (hs : s.size < SMALL) (h : ∀ i, (i = 0 → 0 < s.size) → (k i).wp Pg cfg0 evp QD QR) : (KT.exI fun i => .call f_names_Right [vS s] .none [] ⟨.ret (vI i), .none, []⟩ (k i)).wp Pg cfg0 evp QD QR := by
  obtain ⟨i, h1, h2⟩ := c_Right hs
  exact ⟨i, h1, h i h2⟩
end
theorem c_Tyvar {s : ByteArray} (hs : s.size < SMALL) : ∃ e, evp f_names_Tyvar [vS s] .none [] = some ⟨.ret (vB e), .none, []⟩ := by
  unfold SMALL at hs
  refine kt2_b ?_
  have hl : (Y_Tyvar s).wp Pg cfg0 evp [] (fun r => ∃ e, r = ⟨.ret (vB e), .none, []⟩) := by
    refine loop2 (fun i : Nat => ⟨tm2 35 [(0, (vS (s))), (18, (vI ((↑s.size : Int)))), (19, (vI i))], lm2 35 [], ⟨[], [], .none, 0⟩⟩) (fun i => i ≤ s.size) (fun i => s.size - i) 0 (by kernel_rfl) (Nat.zero_le _) ?_
    intro i hi
    refine wp_eq2 (X_TyvarR_eq s i) ?_
    refine wp_if2 (fun h => ?_) (fun h => ?_)
    · have h := of_decide_eq_true h
      rw [kw_succ (x := i) (by omega)]
      refine wp_byte (Int.natCast_nonneg i) (by rw [Int.toNat_natCast]; omega) (fun y => ?_)
      repeat' first
        | exact ⟨_, rfl⟩
        | exact wp_done ⟨i + 1, ⟨by omega, by omega⟩, rfl⟩
        | refine wp_need ?_
        | refine wp_out ?_
        | refine wp_callB2 (c_low _) (fun b => ?_)
        | refine wp_callB2 (c_digit _) (fun b => ?_)
        | refine wp_if2 (fun h => ?_) (fun h => ?_)
        | refine wp_byte (Int.natCast_nonneg i) (by rw [Int.toNat_natCast]; omega) (fun y => ?_)
    · repeat' first
        | exact ⟨_, rfl⟩
        | refine wp_need ?_
        | refine wp_out ?_
        | refine wp_if2 (fun h => ?_) (fun h => ?_)
  refine wp_eq2 (X_Tyvar_eq s) (wp_stage (wp_if2 (fun h => ?_) (fun h => ?_)))
  · exact wp_out (wp_need ⟨_, rfl⟩)
  · have hp := ne_size h
    repeat' first
      | exact ⟨_, rfl⟩
      | exact wp_done (wp_eq2 (y_Tyvar s) hl)
      | refine wp_need ?_
      | refine wp_out ?_
      | refine wp_byte (by decide) (by simpa using hp) (fun y => ?_)
      | refine wp_callB2 (c_low _) (fun b => ?_)
      | refine wp_if2 (fun h => ?_) (fun h => ?_)
theorem c_Lower {s : ByteArray} (hs : s.size < SMALL) : ∃ e, evp f_names_Lower [vS s] .none [] = some ⟨.ret (vB e), .none, []⟩ := by
  refine kt2_b (wp_eq2 (X_Lower_eq s) (wp_Right hs fun i hi => ?_))
  repeat' first
    | exact ⟨_, rfl⟩
    | refine wp_need ?_
    | refine wp_byte (by decide) (by simpa using hi (beq_iff_eq.1 (by assumption))) (fun y => ?_)
    | refine wp_callB2 (c_low _) (fun b => ?_)
    | refine wp_if2 (fun h => ?_) (fun h => ?_)
theorem c_Upper {s : ByteArray} (hs : s.size < SMALL) : ∃ e, evp f_names_Upper [vS s] .none [] = some ⟨.ret (vB e), .none, []⟩ := by
  refine kt2_b (wp_eq2 (X_Upper_eq s) (wp_Right hs fun i hi => ?_))
  repeat' first
    | exact ⟨_, rfl⟩
    | refine wp_need ?_
    | refine wp_byte (by decide) (by simpa using hi (beq_iff_eq.1 (by assumption))) (fun y => ?_)
    | refine wp_callB2 (c_high _) (fun b => ?_)
    | refine wp_if2 (fun h => ?_) (fun h => ?_)
theorem c_lowName {s : ByteArray} (hs : s.size < SMALL) : ∃ e, evp f_tree_lowName [vS s] .none [] = some ⟨oc e, .none, []⟩ := by
  refine kt2_oc (wp_eq2 (X_lowName_eq s) (wp_Right hs fun i hi => ?_))
  repeat' first
    | exact oc_ret
    | exact oc_pan (by decide)
    | exact oc_pan (bne_iff_ne.1 (by assumption))
    | refine wp_need ?_
    | refine wp_callB2 (c_Lower hs) (fun b => ?_)
    | refine wp_if2 (fun h => ?_) (fun h => ?_)
theorem c_highName {s : ByteArray} (hs : s.size < SMALL) : ∃ e, evp f_tree_highName [vS s] .none [] = some ⟨oc e, .none, []⟩ := by
  refine kt2_oc (wp_eq2 (X_highName_eq s) (wp_Right hs fun i hi => ?_))
  repeat' first
    | exact oc_ret
    | exact oc_pan (by decide)
    | exact oc_pan (bne_iff_ne.1 (by assumption))
    | refine wp_need ?_
    | refine wp_callB2 (c_Upper hs) (fun b => ?_)
    | refine wp_if2 (fun h => ?_) (fun h => ?_)
/-- rows of texts, none too long -/
def Strs (p : List (List AV)) : Prop := ∀ r ∈ p, ∃ s : ByteArray, r = [vS s] ∧ s.size < SMALL
theorem Strs.at {p : List (List AV)} (h : Strs p) {i : Nat} (hi : i < p.length) : ∃ s : ByteArray, p[i]? = some [vS s] ∧ s.size < SMALL := by
  obtain ⟨s, h1, h2⟩ := h p[i] (List.getElem_mem hi)
  exact ⟨s, by rw [List.getElem?_eq_getElem hi, h1], h2⟩
theorem c_Path {p : List (List AV)} (hp : Strs p) : ∃ e, evp f_names_Path [.slice 1 p .no] .none [] = some ⟨.ret (vI e), .none, []⟩ ∧ (e = 0 → 0 < p.length ∧ p.length ≤ 8) := by
  obtain ⟨r, h1, e, rfl, h2⟩ := kt2_ex (f := f_names_Path) (args := [.slice 1 p .no]) (H := []) (Q := fun r => ∃ e, r = ⟨.ret (vI e), .none, []⟩ ∧ (e = 0 → 0 < p.length ∧ p.length ≤ 8)) (by
    have hl : 0 < p.length → p.length ≤ 8 → (Y_Path p).wp Pg cfg0 evp [] (fun r => ∃ e, r = ⟨.ret (vI e), .none, []⟩ ∧ (e = 0 → 0 < p.length ∧ p.length ≤ 8)) := by
      intro hpos hle
      refine loop2 (fun i : Nat => ⟨tm2 38 [(0, (.slice 1 (p) .no)), (14, (.slice 1 (p) .no)), (15, (vI ((↑p.length : Int)))), (16, (vI i))], lm2 38 [], ⟨[], [], .none, 0⟩⟩) (fun i => i ≤ p.length) (fun i => p.length - i) 0 (by kernel_rfl) (Nat.zero_le _) ?_
      intro i hi
      refine wp_eq2 (X_PathR_eq p i) ?_
      refine wp_if2 (fun h => ?_) (fun h => ?_)
      · have h := of_decide_eq_true h
        obtain ⟨s, hs1, hs2⟩ := hp.at (i := i) (by omega)
        rw [kw_succ (x := i) (by omega)]
        refine ⟨s, ⟨Int.natCast_nonneg i, hs1⟩, wp_Right hs2 fun j hj => ?_⟩
        refine wp_if2 (fun h => ?_) (fun h => ?_)
        · exact wp_out (wp_need ⟨_, rfl, fun h0 => absurd h0 (bne_iff_ne.1 h)⟩)
        · have hj0 : j = 0 := by simpa using h
          repeat' first
            | exact ⟨_, rfl, fun h => absurd h (by decide)⟩
            | exact wp_done ⟨i + 1, ⟨by omega, by omega⟩, rfl⟩
            | refine wp_need ?_
            | refine wp_out ?_
            | refine wp_byte (by decide) (by simpa using hj hj0) (fun y => ?_)
            | refine wp_callB2 (c_high _) (fun b => ?_)
            | refine wp_if2 (fun h => ?_) (fun h => ?_)
      · exact wp_out (wp_need ⟨_, rfl, fun _ => ⟨hpos, hle⟩⟩)
    refine wp_eq2 (X_Path_eq p) (wp_if2 (fun h => ?_) (fun h => wp_if2 (fun h2 => ?_) (fun h2 => ?_)))
    · exact wp_need ⟨_, rfl, fun h => absurd h (by decide)⟩
    · exact wp_need ⟨_, rfl, fun h => absurd h (by decide)⟩
    · have h2 := of_decide_eq_false h2
      have h := beq_eq_false_iff_ne.1 h
      exact wp_eq2 (y_Path p) (hl (by omega) (by omega)))
  exact ⟨e, h1, h2⟩
section
variable {QD : List (St → Prop)} {QR : CRes → Prop}
theorem wp_Path {p : List (List AV)} {k : Int → KT} (hp : Strs p) (h : ∀ i, (i = 0 → 0 < p.length ∧ p.length ≤ 8) → (k i).wp Pg cfg0 evp QD QR) : (KT.exI fun i => .call f_names_Path [.slice 1 p .no] .none [] ⟨.ret (vI i), .none, []⟩ (k i)).wp Pg cfg0 evp QD QR := by
  obtain ⟨i, h1, h2⟩ := c_Path hp
  exact ⟨i, h1, h i h2⟩
end
theorem last_at {p : List (List AV)} (hp : Strs p) (h : 0 < p.length ∧ p.length ≤ 8) : ∃ s : ByteArray, (0 ≤ IntKind.i64.wrap ((p.length : Int) - 1) ∧ p[(IntKind.i64.wrap ((p.length : Int) - 1)).toNat]? = some [vS s]) ∧ s.size < SMALL := by
  have e : IntKind.i64.wrap ((p.length : Int) - 1) = ((p.length - 1 : Nat) : Int) := by
    obtain ⟨n, hn⟩ : ∃ n, p.length = n + 1 := ⟨p.length - 1, by omega⟩
    rw [hn, kw_pred (by omega)]; rfl
  obtain ⟨s, h1, h2⟩ := hp.at (i := p.length - 1) (by omega)
  exact ⟨s, ⟨by rw [e]; omega, by rw [e, Int.toNat_natCast]; exact h1⟩, h2⟩
theorem c_lowPath {p : List (List AV)} (hp : Strs p) : ∃ e, evp f_tree_lowPath [.slice 1 p .no] .none [] = some ⟨oc e, .none, []⟩ := by
  refine kt2_oc (wp_eq2 (X_lowPath_eq p) (wp_Path hp fun i hi => wp_if2 (fun h => ?_) (fun h => ?_)))
  · repeat' first
      | exact oc_pan (bne_iff_ne.1 h)
      | refine wp_need ?_
  · obtain ⟨s, h1, h2⟩ := last_at hp (hi (by simpa using h))
    refine wp_need ⟨s, h1, ?_⟩
    repeat' first
      | exact oc_ret
      | exact oc_pan (by decide)
      | refine wp_need ?_
      | refine wp_callB2 (c_Lower h2) (fun b => ?_)
      | refine wp_if2 (fun h => ?_) (fun h => ?_)
theorem c_highPath {p : List (List AV)} (hp : Strs p) : ∃ e, evp f_tree_highPath [.slice 1 p .no] .none [] = some ⟨oc e, .none, []⟩ := by
  refine kt2_oc (wp_eq2 (X_highPath_eq p) (wp_Path hp fun i hi => wp_if2 (fun h => ?_) (fun h => ?_)))
  · repeat' first
      | exact oc_pan (bne_iff_ne.1 h)
      | refine wp_need ?_
  · obtain ⟨s, h1, h2⟩ := last_at hp (hi (by simpa using h))
    refine wp_need ⟨s, h1, ?_⟩
    repeat' first
      | exact oc_ret
      | exact oc_pan (by decide)
      | refine wp_need ?_
      | refine wp_callB2 (c_Upper h2) (fun b => ?_)
      | refine wp_if2 (fun h => ?_) (fun h => ?_)
theorem c_basic {p : List (List AV)} (hp : Strs p) : ∃ e, evp f_tree_basic [.slice 1 p .no] .none [] = some ⟨.ret (vB e), .none, []⟩ := by
  refine kt2_b (wp_eq2 (X_basic_eq p) (wp_if2 (fun h => ?_) (fun h => ?_)))
  · have hl : p.length = 1 := by have := beq_iff_eq.1 h; omega
    obtain ⟨s, h1, h2⟩ := hp.at (i := 0) (by omega)
    repeat' first
      | exact ⟨_, rfl⟩
      | refine wp_need ?_
      | refine ⟨s, ⟨by decide, h1⟩, ?_⟩
      | refine wp_if2 (fun h => ?_) (fun h => ?_)
  · repeat' first
      | exact ⟨_, rfl⟩
      | refine wp_need ?_
end Go.Proofs
