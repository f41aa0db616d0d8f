/- the checks of names and paths, and small ones: each answers something (or panics with an error) -/
import Derived.Test.YtgimppnhjfjeaaaX
open Go Go.Eng
namespace Go.Proofs
set_option linter.unusedVariables false
set_option linter.unusedSimpArgs false
set_option maxRecDepth 100000
/-- how a check ends: well, or with its error -/
def oc (e : Int) : Out := if e = 0 then .ret (.tuple []) else .panic (.iface y_tree_wrong (vI e))
theorem oc_ret : ∃ e, (⟨.ret (.tuple []), .none, []⟩ : CRes) = ⟨oc e, .none, []⟩ := ⟨0, rfl⟩
theorem oc_pan {e : Int} (h : e ≠ 0) : ∃ e', (⟨.panic (.iface y_tree_wrong (vI e)), .none, []⟩ : CRes) = ⟨oc e', .none, []⟩ := ⟨e, by unfold oc; rw [if_neg h]⟩
theorem kt2_ex {f : FuncId} {args : List AV} {H : Heap} {Q : CRes → Prop} (h : (kt2 f args H).wp Pg cfg0 evp [] Q) : ∃ r, evp f args .none H = some r ∧ Q r := by
  delta kt2 at h
  exact ktree_sound ev_byCode h
theorem kt2_oc {f : FuncId} {args : List AV} (h : (kt2 f args []).wp Pg cfg0 evp [] (fun r => ∃ e, r = ⟨oc e, .none, []⟩)) : ∃ e, evp f args .none [] = some ⟨oc e, .none, []⟩ := by
  obtain ⟨r, h1, e, rfl⟩ := kt2_ex h
  exact ⟨e, h1⟩
theorem kt2_b {f : FuncId} {args : List AV} (h : (kt2 f args []).wp Pg cfg0 evp [] (fun r => ∃ e, r = ⟨.ret (vB e), .none, []⟩)) : ∃ e, evp f args .none [] = some ⟨.ret (vB e), .none, []⟩ := by
  obtain ⟨r, h1, e, rfl⟩ := kt2_ex h
  exact ⟨e, h1⟩
section
variable {QD : List (St → Prop)} {QR : CRes → Prop}
theorem wp_alt {g : FuncId} {args : List AV} {t : KT} {f : Int → KT} (hc : ∃ e, evp g args .none [] = some ⟨oc e, .none, []⟩) (h1 : t.wp Pg cfg0 evp QD QR) (h2 : ∀ e, e ≠ 0 → (f e).wp Pg cfg0 evp QD QR) :
    (KT.alt (.call g args .none [] ⟨.ret (.tuple []), .none, []⟩ t) (.exI fun i => .call g args .none [] ⟨.panic (.iface y_tree_wrong (vI i)), .none, []⟩ (f i))).wp Pg cfg0 evp QD QR := by
  obtain ⟨e, he⟩ := hc
  by_cases h : e = 0
  · subst h
    exact .inl ⟨he, h1⟩
  · refine .inr ⟨e, ?_, h2 e h⟩
    unfold oc at he; rw [if_neg h] at he; exact he
theorem wp_byte {s : ByteArray} {i : Int} {k : UInt8 → KT} (h0 : 0 ≤ i) (h : i.toNat < s.size) (hk : ∀ y, (k y).wp Pg cfg0 evp QD QR) : (KT.exY fun y => .byte s i y (k y)).wp Pg cfg0 evp QD QR :=
  ⟨s[i.toNat], ⟨h0, by rw [getElem?_pos s i.toNat h]⟩, hk _⟩
end
theorem ne_size {s : ByteArray} (h : (s.toList == (⟨#[]⟩ : ByteArray).toList) = false) : 0 < s.size := by
  rcases Nat.eq_zero_or_pos s.size with h0 | h0
  · exfalso
    obtain ⟨d⟩ := s
    have : d = #[] := Array.eq_empty_of_size_eq_zero h0
    subst this
    simp at h
  · exact h0

theorem c_low (c : UInt8) : ∃ e, evp f_names_low [.val (.int .u8 c.toNat)] .none [] = some ⟨.ret (vB e), .none, []⟩ := kt2_b (wp_eq2 (X_low_eq c) (by repeat' first | exact ⟨_, rfl⟩ | refine wp_need ?_ | refine wp_if2 (fun h => ?_) (fun h => ?_)))
theorem c_high (c : UInt8) : ∃ e, evp f_names_high [.val (.int .u8 c.toNat)] .none [] = some ⟨.ret (vB e), .none, []⟩ := kt2_b (wp_eq2 (X_high_eq c) (by repeat' first | exact ⟨_, rfl⟩ | refine wp_need ?_ | refine wp_if2 (fun h => ?_) (fun h => ?_)))
theorem c_digit (c : UInt8) : ∃ e, evp f_names_digit [.val (.int .u8 c.toNat)] .none [] = some ⟨.ret (vB e), .none, []⟩ := kt2_b (wp_eq2 (X_digit_eq c) (by repeat' first | exact ⟨_, rfl⟩ | refine wp_need ?_ | refine wp_if2 (fun h => ?_) (fun h => ?_)))
theorem c_Reserved (s : ByteArray) : ∃ e, evp f_names_Reserved [vS s] .none [] = some ⟨.ret (vB e), .none, []⟩ := kt2_b (wp_eq2 (X_Reserved_eq s) (by repeat' first | exact ⟨_, rfl⟩ | refine wp_need ?_ | refine wp_if2 (fun h => ?_) (fun h => ?_)))
theorem c_ask (b : Bool) : ∃ e, evp f_tree_ask [vB b] .none [] = some ⟨oc e, .none, []⟩ := kt2_oc (wp_eq2 (X_ask_eq b) (by repeat' first | exact oc_ret | exact oc_pan (by decide) | refine wp_need ?_ | refine wp_if2 (fun h => ?_) (fun h => ?_)))
theorem c_count (n l m : Int) : ∃ e, evp f_tree_count [vI n, vI l, vI m] .none [] = some ⟨oc e, .none, []⟩ := kt2_oc (wp_eq2 (X_count_eq n l m) (by repeat' first | exact oc_ret | exact oc_pan (by assumption) | refine wp_need ?_ | refine wp_alt (c_ask _) ?_ (fun e h => ?_) | refine wp_if2 (fun h => ?_) (fun h => ?_)))
theorem c_parts (k : Int) : ∃ a b c, evp f_tree_parts [vI k] .none [] = some ⟨.ret (.tuple [vI a, vI b, vI c]), .none, []⟩ := by
  obtain ⟨r, h1, a, b, c, rfl⟩ := kt2_ex (Q := fun r => ∃ a b c, r = ⟨.ret (.tuple [vI a, vI b, vI c]), .none, []⟩) (wp_eq2 (X_parts_eq k) (by repeat' first | exact ⟨_, _, _, rfl⟩ | refine wp_need ?_ | refine wp_if2 (fun h => ?_) (fun h => ?_)))
  exact ⟨a, b, c, h1⟩

theorem y_Right (s : ByteArray) : (X_Right s).K ⟨tm2 52 [(0, (vS (s)))], lm2 52 [], ⟨[], [], .none, 0⟩⟩ = Y_Right s := by kernel_rfl
theorem y_Tyvar (s : ByteArray) : (X_Tyvar s).K ⟨tm2 35 [(0, (vS (s)))], lm2 35 [], ⟨[], [], .none, 0⟩⟩ = Y_Tyvar s := by kernel_rfl
theorem y_Path (p : List (List AV)) : (X_Path p).F.F = Y_Path p := by kernel_rfl

/-- a name's error; none: it is not empty -/
theorem c_Right {s : ByteArray} (hs : s.size < 4611686018427387904) : ∃ e, evp f_names_Right [vS s] .none [] = some ⟨.ret (vI e), .none, []⟩ ∧ (e = 0 → 0 < s.size) := by
  obtain ⟨r, h1, e, rfl, h2⟩ := kt2_ex (f := f_names_Right) (args := [vS s]) (H := []) (Q := fun r => ∃ e, r = ⟨.ret (vI e), .none, []⟩ ∧ (e = 0 → 0 < s.size)) (by
    have hl : 0 < s.size → (Y_Right s).wp Pg cfg0 evp [] (fun r => ∃ e, r = ⟨.ret (vI e), .none, []⟩ ∧ (e = 0 → 0 < s.size)) := by
      intro hpos
      refine loop2 (fun i : Nat => ⟨tm2 52 [(0, (vS (s))), (20, (vI ((↑s.size : Int)))), (21, (vI i))], lm2 52 [], ⟨[], [], .none, 0⟩⟩) (fun i => i ≤ s.size) (fun i => s.size - i) 0 (by kernel_rfl) (Nat.zero_le _) ?_
      intro i hi
      refine wp_eq2 (X_RightR_eq s i) ?_
      refine wp_if2 (fun h => ?_) (fun h => ?_)
      · have h := of_decide_eq_true h
        rw [kw_succ (x := i) (by omega)]
        refine wp_byte (Int.natCast_nonneg i) (by rw [Int.toNat_natCast]; omega) (fun y => ?_)
        repeat' first
          | exact ⟨_, rfl, fun h => absurd h (by decide)⟩
          | exact wp_done ⟨i + 1, ⟨by omega, by omega⟩, rfl⟩
          | refine wp_need ?_
          | refine wp_out ?_
          | refine wp_callB2 (c_low _) (fun b => ?_)
          | refine wp_callB2 (c_high _) (fun b => ?_)
          | refine wp_callB2 (c_digit _) (fun b => ?_)
          | refine wp_if2 (fun h => ?_) (fun h => ?_)
      · repeat' first
          | exact ⟨_, rfl, fun h => absurd h (by decide)⟩
          | exact ⟨_, rfl, fun _ => hpos⟩
          | refine wp_need ?_
          | refine wp_out ?_
          | refine wp_callB2 (c_Reserved _) (fun b => ?_)
          | refine wp_if2 (fun h => ?_) (fun h => ?_)
    refine wp_eq2 (X_Right_eq s) (wp_stage (wp_if2 (fun h => ?_) (fun h => ?_)))
    · exact wp_out (wp_need ⟨_, rfl, fun h => absurd h (by decide)⟩)
    · have hp := ne_size h
      repeat' first
        | exact ⟨_, rfl, fun h => absurd h (by decide)⟩
        | exact wp_done (wp_eq2 (y_Right s) (hl hp))
        | refine wp_need ?_
        | refine wp_out ?_
        | refine wp_byte (by decide) (by simpa using hp) (fun y => ?_)
        | refine wp_callB2 (c_low _) (fun b => ?_)
        | refine wp_callB2 (c_high _) (fun b => ?_)
        | refine wp_if2 (fun h => ?_) (fun h => ?_))
  exact ⟨e, h1, h2⟩
end Go.Proofs
