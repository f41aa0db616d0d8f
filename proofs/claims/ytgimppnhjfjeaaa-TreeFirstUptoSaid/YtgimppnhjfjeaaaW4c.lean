/- the checks of nodes: each ends well or with an error -/
import Derived.Test.YtgimppnhjfjeaaaW4b
import Derived.Test.YtgimppnhjfjeaaaW1
open Go Go.Eng
namespace Go.Proofs
set_option linter.unusedVariables false
set_option linter.unusedSimpArgs false
set_option maxRecDepth 100000
section
variable {QD : List (St → Prop)} {QR : CRes → Prop}
theorem wp_parts {k : Int} {K : Int → Int → Int → KT} (h : ∀ a b c, (K a b c).wp Pg cfg0 evp QD QR) :
    (KT.exI fun a => .exI fun b => .exI fun c => .call f_tree_parts [vI k] .none [] ⟨.ret (.tuple [vI a, vI b, vI c]), .none, []⟩ (K a b c)).wp Pg cfg0 evp QD QR := by
  obtain ⟨a, b, c, h1⟩ := c_parts k
  exact ⟨a, b, c, h1, h a b c⟩
end
theorem e_Ty_ty {l : List (List AV)} (hl : l.length < SMALL) (hf : ∀ r ∈ l, ∃ (k : Int) (n : ByteArray) (p : List (List AV)) (a : List (List AV)), r = [vI k, vS n, .slice 1 p .no, .slice 4 a .no] ∧ ∃ e', evp f_tree_ty [.agg [vI k, vS n, .slice 1 p .no, .slice 4 a .no]] .none [] = some ⟨oc e', .none, []⟩) : ∃ e, evp f_tree_each_api_Ty [.slice 4 l .no, .func (.func f_tree_ty) [] []] .none [] = some ⟨oc e, .none, []⟩ := by
  unfold SMALL at hl
  refine kt2_oc ?_
  have key : (X_eachTy_ty l).wp Pg cfg0 evp [] (fun r => ∃ e, r = ⟨oc e, .none, []⟩) := by
    refine loop2 (fun i : Nat => ⟨tm2 16 [(1, (.func (.func f_tree_ty) [] [])), (6, (.slice 4 (l) .no)), (7, (vI ((↑l.length : Int)))), (8, (vI i))], lm2 16 [], ⟨[], [], .none, 0⟩⟩) (fun i => i ≤ l.length) (fun i => l.length - i) 0 (by kernel_rfl) (Nat.zero_le _) ?_
    intro i hi
    refine wp_eq2 (X_eachTy_tyR_eq l i) ?_
    refine wp_if2 (fun h => ?_) (fun h => ?_)
    · have h := of_decide_eq_true h
      obtain ⟨k, n, p, a, h1, hx⟩ := hf l[i] (List.getElem_mem (by omega))
      have h2 : l[i]? = some [vI k, vS n, .slice 1 p .no, .slice 4 a .no] := by rw [List.getElem?_eq_getElem (by omega), h1]
      rw [kw_succ (x := i) (by omega)]
      refine ⟨k, n, p, a, ⟨Int.natCast_nonneg i, h2⟩, wp_alt hx ?_ (fun er he => ?_)⟩
      · exact wp_done ⟨i + 1, ⟨by omega, by omega⟩, rfl⟩
      · exact wp_out (wp_need (oc_pan he))
    · exact wp_out (wp_need oc_ret)
  have hk : kt2 f_tree_each_api_Ty [.slice 4 l .no, .func (.func f_tree_ty) [] []] [] = X_eachTy_ty l := by kernel_rfl
  exact wp_eq2 hk key
theorem e_Pat_pat {l : List (List AV)} (hl : l.length < SMALL) (hf : ∀ r ∈ l, ∃ (k : Int) (n : ByteArray) (p : List (List AV)) (m : Int) (a : List (List AV)), r = [vI k, vS n, .slice 1 p .no, vI m, .slice 5 a .no] ∧ ∃ e', evp f_tree_pat [.agg [vI k, vS n, .slice 1 p .no, vI m, .slice 5 a .no]] .none [] = some ⟨oc e', .none, []⟩) : ∃ e, evp f_tree_each_api_Pat [.slice 5 l .no, .func (.func f_tree_pat) [] []] .none [] = some ⟨oc e, .none, []⟩ := by
  unfold SMALL at hl
  refine kt2_oc ?_
  have key : (X_eachPat_pat l).wp Pg cfg0 evp [] (fun r => ∃ e, r = ⟨oc e, .none, []⟩) := by
    refine loop2 (fun i : Nat => ⟨tm2 16 [(1, (.func (.func f_tree_pat) [] [])), (6, (.slice 5 (l) .no)), (7, (vI ((↑l.length : Int)))), (8, (vI i))], lm2 16 [], ⟨[], [], .none, 0⟩⟩) (fun i => i ≤ l.length) (fun i => l.length - i) 0 (by kernel_rfl) (Nat.zero_le _) ?_
    intro i hi
    refine wp_eq2 (X_eachPat_patR_eq l i) ?_
    refine wp_if2 (fun h => ?_) (fun h => ?_)
    · have h := of_decide_eq_true h
      obtain ⟨k, n, p, m, a, h1, hx⟩ := hf l[i] (List.getElem_mem (by omega))
      have h2 : l[i]? = some [vI k, vS n, .slice 1 p .no, vI m, .slice 5 a .no] := by rw [List.getElem?_eq_getElem (by omega), h1]
      rw [kw_succ (x := i) (by omega)]
      refine ⟨k, n, p, m, a, ⟨Int.natCast_nonneg i, h2⟩, wp_alt hx ?_ (fun er he => ?_)⟩
      · exact wp_done ⟨i + 1, ⟨by omega, by omega⟩, rfl⟩
      · exact wp_out (wp_need (oc_pan he))
    · exact wp_out (wp_need oc_ret)
  have hk : kt2 f_tree_each_api_Pat [.slice 5 l .no, .func (.func f_tree_pat) [] []] [] = X_eachPat_pat l := by kernel_rfl
  exact wp_eq2 hk key
theorem e_Exp_exp {l : List (List AV)} (hl : l.length < SMALL) (hf : ∀ r ∈ l, ∃ (k : Int) (o : Int) (m : Int) (p : List (List AV)) (a : List (List AV)) (b : List (List AV)) (c : List (List AV)) (d : List (List AV)), r = [vI k, vI o, vI m, .slice 1 p .no, .slice 5 a .no, .slice 8 b .no, .slice 9 c .no, .slice 4 d .no] ∧ ∃ e', evp f_tree_exp [.agg [vI k, vI o, vI m, .slice 1 p .no, .slice 5 a .no, .slice 8 b .no, .slice 9 c .no, .slice 4 d .no]] .none [] = some ⟨oc e', .none, []⟩) : ∃ e, evp f_tree_each_api_Exp [.slice 8 l .no, .func (.func f_tree_exp) [] []] .none [] = some ⟨oc e, .none, []⟩ := by
  unfold SMALL at hl
  refine kt2_oc ?_
  have key : (X_eachExp_exp l).wp Pg cfg0 evp [] (fun r => ∃ e, r = ⟨oc e, .none, []⟩) := by
    refine loop2 (fun i : Nat => ⟨tm2 16 [(1, (.func (.func f_tree_exp) [] [])), (6, (.slice 8 (l) .no)), (7, (vI ((↑l.length : Int)))), (8, (vI i))], lm2 16 [], ⟨[], [], .none, 0⟩⟩) (fun i => i ≤ l.length) (fun i => l.length - i) 0 (by kernel_rfl) (Nat.zero_le _) ?_
    intro i hi
    refine wp_eq2 (X_eachExp_expR_eq l i) ?_
    refine wp_if2 (fun h => ?_) (fun h => ?_)
    · have h := of_decide_eq_true h
      obtain ⟨k, o, m, p, a, b, c, d, h1, hx⟩ := hf l[i] (List.getElem_mem (by omega))
      have h2 : l[i]? = some [vI k, vI o, vI m, .slice 1 p .no, .slice 5 a .no, .slice 8 b .no, .slice 9 c .no, .slice 4 d .no] := by rw [List.getElem?_eq_getElem (by omega), h1]
      rw [kw_succ (x := i) (by omega)]
      refine ⟨k, o, m, p, a, b, c, d, ⟨Int.natCast_nonneg i, h2⟩, wp_alt hx ?_ (fun er he => ?_)⟩
      · exact wp_done ⟨i + 1, ⟨by omega, by omega⟩, rfl⟩
      · exact wp_out (wp_need (oc_pan he))
    · exact wp_out (wp_need oc_ret)
  have hk : kt2 f_tree_each_api_Exp [.slice 8 l .no, .func (.func f_tree_exp) [] []] [] = X_eachExp_exp l := by kernel_rfl
  exact wp_eq2 hk key
theorem e_Con_con {l : List (List AV)} (hl : l.length < SMALL) (hf : ∀ r ∈ l, ∃ (n : ByteArray) (a : List (List AV)), r = [vS n, .slice 4 a .no] ∧ ∃ e', evp f_tree_con [.agg [vS n, .slice 4 a .no]] .none [] = some ⟨oc e', .none, []⟩) : ∃ e, evp f_tree_each_api_Con [.slice 2 l .no, .func (.func f_tree_con) [] []] .none [] = some ⟨oc e, .none, []⟩ := by
  unfold SMALL at hl
  refine kt2_oc ?_
  have key : (X_eachCon_con l).wp Pg cfg0 evp [] (fun r => ∃ e, r = ⟨oc e, .none, []⟩) := by
    refine loop2 (fun i : Nat => ⟨tm2 16 [(1, (.func (.func f_tree_con) [] [])), (6, (.slice 2 (l) .no)), (7, (vI ((↑l.length : Int)))), (8, (vI i))], lm2 16 [], ⟨[], [], .none, 0⟩⟩) (fun i => i ≤ l.length) (fun i => l.length - i) 0 (by kernel_rfl) (Nat.zero_le _) ?_
    intro i hi
    refine wp_eq2 (X_eachCon_conR_eq l i) ?_
    refine wp_if2 (fun h => ?_) (fun h => ?_)
    · have h := of_decide_eq_true h
      obtain ⟨n, a, h1, hx⟩ := hf l[i] (List.getElem_mem (by omega))
      have h2 : l[i]? = some [vS n, .slice 4 a .no] := by rw [List.getElem?_eq_getElem (by omega), h1]
      rw [kw_succ (x := i) (by omega)]
      refine ⟨n, a, ⟨Int.natCast_nonneg i, h2⟩, wp_alt hx ?_ (fun er he => ?_)⟩
      · exact wp_done ⟨i + 1, ⟨by omega, by omega⟩, rfl⟩
      · exact wp_out (wp_need (oc_pan he))
    · exact wp_out (wp_need oc_ret)
  have hk : kt2 f_tree_each_api_Con [.slice 2 l .no, .func (.func f_tree_con) [] []] [] = X_eachCon_con l := by kernel_rfl
  exact wp_eq2 hk key
theorem e_Dec_dec {l : List (List AV)} (hl : l.length < SMALL) (hf : ∀ r ∈ l, ∃ (k : Int) (o : Int) (n : ByteArray) (p : List (List AV)) (a : List (List AV)) (b : List (List AV)) (c : List (List AV)) (d : List (List AV)) (e : List (List AV)), r = [vI k, vI o, vS n, .slice 1 p .no, .slice 4 a .no, .slice 8 b .no, .slice 2 c .no, .slice 5 d .no, .slice 5 e .no] ∧ ∃ e', evp f_tree_dec [.agg [vI k, vI o, vS n, .slice 1 p .no, .slice 4 a .no, .slice 8 b .no, .slice 2 c .no, .slice 5 d .no, .slice 5 e .no]] .none [] = some ⟨oc e', .none, []⟩) : ∃ e, evp f_tree_each_api_Dec [.slice 9 l .no, .func (.func f_tree_dec) [] []] .none [] = some ⟨oc e, .none, []⟩ := by
  unfold SMALL at hl
  refine kt2_oc ?_
  have key : (X_eachDec_dec l).wp Pg cfg0 evp [] (fun r => ∃ e, r = ⟨oc e, .none, []⟩) := by
    refine loop2 (fun i : Nat => ⟨tm2 16 [(1, (.func (.func f_tree_dec) [] [])), (6, (.slice 9 (l) .no)), (7, (vI ((↑l.length : Int)))), (8, (vI i))], lm2 16 [], ⟨[], [], .none, 0⟩⟩) (fun i => i ≤ l.length) (fun i => l.length - i) 0 (by kernel_rfl) (Nat.zero_le _) ?_
    intro i hi
    refine wp_eq2 (X_eachDec_decR_eq l i) ?_
    refine wp_if2 (fun h => ?_) (fun h => ?_)
    · have h := of_decide_eq_true h
      obtain ⟨k, o, n, p, a, b, c, d, e, h1, hx⟩ := hf l[i] (List.getElem_mem (by omega))
      have h2 : l[i]? = some [vI k, vI o, vS n, .slice 1 p .no, .slice 4 a .no, .slice 8 b .no, .slice 2 c .no, .slice 5 d .no, .slice 5 e .no] := by rw [List.getElem?_eq_getElem (by omega), h1]
      rw [kw_succ (x := i) (by omega)]
      refine ⟨k, o, n, p, a, b, c, d, e, ⟨Int.natCast_nonneg i, h2⟩, wp_alt hx ?_ (fun er he => ?_)⟩
      · exact wp_done ⟨i + 1, ⟨by omega, by omega⟩, rfl⟩
      · exact wp_out (wp_need (oc_pan he))
    · exact wp_out (wp_need oc_ret)
  have hk : kt2 f_tree_each_api_Dec [.slice 9 l .no, .func (.func f_tree_dec) [] []] [] = X_eachDec_dec l := by kernel_rfl
  exact wp_eq2 hk key
theorem e_Dec_exp_1 {l : List (List AV)} (hl : l.length < SMALL) (hf : ∀ r ∈ l, ∃ (k : Int) (o : Int) (n : ByteArray) (p : List (List AV)) (a : List (List AV)) (b : List (List AV)) (c : List (List AV)) (d : List (List AV)) (e : List (List AV)), r = [vI k, vI o, vS n, .slice 1 p .no, .slice 4 a .no, .slice 8 b .no, .slice 2 c .no, .slice 5 d .no, .slice 5 e .no] ∧ ∃ e', evp f_tree_exp_1 [.agg [vI k, vI o, vS n, .slice 1 p .no, .slice 4 a .no, .slice 8 b .no, .slice 2 c .no, .slice 5 d .no, .slice 5 e .no]] .none [] = some ⟨oc e', .none, []⟩) : ∃ e, evp f_tree_each_api_Dec [.slice 9 l .no, .func (.func f_tree_exp_1) [] []] .none [] = some ⟨oc e, .none, []⟩ := by
  unfold SMALL at hl
  refine kt2_oc ?_
  have key : (X_eachDec_exp_1 l).wp Pg cfg0 evp [] (fun r => ∃ e, r = ⟨oc e, .none, []⟩) := by
    refine loop2 (fun i : Nat => ⟨tm2 16 [(1, (.func (.func f_tree_exp_1) [] [])), (6, (.slice 9 (l) .no)), (7, (vI ((↑l.length : Int)))), (8, (vI i))], lm2 16 [], ⟨[], [], .none, 0⟩⟩) (fun i => i ≤ l.length) (fun i => l.length - i) 0 (by kernel_rfl) (Nat.zero_le _) ?_
    intro i hi
    refine wp_eq2 (X_eachDec_exp_1R_eq l i) ?_
    refine wp_if2 (fun h => ?_) (fun h => ?_)
    · have h := of_decide_eq_true h
      obtain ⟨k, o, n, p, a, b, c, d, e, h1, hx⟩ := hf l[i] (List.getElem_mem (by omega))
      have h2 : l[i]? = some [vI k, vI o, vS n, .slice 1 p .no, .slice 4 a .no, .slice 8 b .no, .slice 2 c .no, .slice 5 d .no, .slice 5 e .no] := by rw [List.getElem?_eq_getElem (by omega), h1]
      rw [kw_succ (x := i) (by omega)]
      refine ⟨k, o, n, p, a, b, c, d, e, ⟨Int.natCast_nonneg i, h2⟩, wp_alt hx ?_ (fun er he => ?_)⟩
      · exact wp_done ⟨i + 1, ⟨by omega, by omega⟩, rfl⟩
      · exact wp_out (wp_need (oc_pan he))
    · exact wp_out (wp_need oc_ret)
  have hk : kt2 f_tree_each_api_Dec [.slice 9 l .no, .func (.func f_tree_exp_1) [] []] [] = X_eachDec_exp_1 l := by kernel_rfl
  exact wp_eq2 hk key
theorem e_Mod_mod {l : List (List AV)} (hl : l.length < SMALL) (hf : ∀ r ∈ l, ∃ (k : Int) (p : List (List AV)) (a : List (List AV)) (b : List (List AV)) (c : List (List AV)), r = [vI k, .slice 1 p .no, .slice 9 a .no, .slice 5 b .no, .slice 5 c .no] ∧ ∃ e', evp f_tree_mod [.agg [vI k, .slice 1 p .no, .slice 9 a .no, .slice 5 b .no, .slice 5 c .no]] .none [] = some ⟨oc e', .none, []⟩) : ∃ e, evp f_tree_each_api_Mod [.slice 5 l .no, .func (.func f_tree_mod) [] []] .none [] = some ⟨oc e, .none, []⟩ := by
  unfold SMALL at hl
  refine kt2_oc ?_
  have key : (X_eachMod_mod l).wp Pg cfg0 evp [] (fun r => ∃ e, r = ⟨oc e, .none, []⟩) := by
    refine loop2 (fun i : Nat => ⟨tm2 16 [(1, (.func (.func f_tree_mod) [] [])), (6, (.slice 5 (l) .no)), (7, (vI ((↑l.length : Int)))), (8, (vI i))], lm2 16 [], ⟨[], [], .none, 0⟩⟩) (fun i => i ≤ l.length) (fun i => l.length - i) 0 (by kernel_rfl) (Nat.zero_le _) ?_
    intro i hi
    refine wp_eq2 (X_eachMod_modR_eq l i) ?_
    refine wp_if2 (fun h => ?_) (fun h => ?_)
    · have h := of_decide_eq_true h
      obtain ⟨k, p, a, b, c, h1, hx⟩ := hf l[i] (List.getElem_mem (by omega))
      have h2 : l[i]? = some [vI k, .slice 1 p .no, .slice 9 a .no, .slice 5 b .no, .slice 5 c .no] := by rw [List.getElem?_eq_getElem (by omega), h1]
      rw [kw_succ (x := i) (by omega)]
      refine ⟨k, p, a, b, c, ⟨Int.natCast_nonneg i, h2⟩, wp_alt hx ?_ (fun er he => ?_)⟩
      · exact wp_done ⟨i + 1, ⟨by omega, by omega⟩, rfl⟩
      · exact wp_out (wp_need (oc_pan he))
    · exact wp_out (wp_need oc_ret)
  have hk : kt2 f_tree_each_api_Mod [.slice 5 l .no, .func (.func f_tree_mod) [] []] [] = X_eachMod_mod l := by kernel_rfl
  exact wp_eq2 hk key
theorem e_Sig_sig {l : List (List AV)} (hl : l.length < SMALL) (hf : ∀ r ∈ l, ∃ (k : Int) (p : List (List AV)) (a : List (List AV)) (b : List (List AV)) (c : List (List AV)), r = [vI k, .slice 1 p .no, .slice 6 a .no, .slice 5 b .no, .slice 4 c .no] ∧ ∃ e', evp f_tree_sig [.agg [vI k, .slice 1 p .no, .slice 6 a .no, .slice 5 b .no, .slice 4 c .no]] .none [] = some ⟨oc e', .none, []⟩) : ∃ e, evp f_tree_each_api_Sig [.slice 5 l .no, .func (.func f_tree_sig) [] []] .none [] = some ⟨oc e, .none, []⟩ := by
  unfold SMALL at hl
  refine kt2_oc ?_
  have key : (X_eachSig_sig l).wp Pg cfg0 evp [] (fun r => ∃ e, r = ⟨oc e, .none, []⟩) := by
    refine loop2 (fun i : Nat => ⟨tm2 16 [(1, (.func (.func f_tree_sig) [] [])), (6, (.slice 5 (l) .no)), (7, (vI ((↑l.length : Int)))), (8, (vI i))], lm2 16 [], ⟨[], [], .none, 0⟩⟩) (fun i => i ≤ l.length) (fun i => l.length - i) 0 (by kernel_rfl) (Nat.zero_le _) ?_
    intro i hi
    refine wp_eq2 (X_eachSig_sigR_eq l i) ?_
    refine wp_if2 (fun h => ?_) (fun h => ?_)
    · have h := of_decide_eq_true h
      obtain ⟨k, p, a, b, c, h1, hx⟩ := hf l[i] (List.getElem_mem (by omega))
      have h2 : l[i]? = some [vI k, .slice 1 p .no, .slice 6 a .no, .slice 5 b .no, .slice 4 c .no] := by rw [List.getElem?_eq_getElem (by omega), h1]
      rw [kw_succ (x := i) (by omega)]
      refine ⟨k, p, a, b, c, ⟨Int.natCast_nonneg i, h2⟩, wp_alt hx ?_ (fun er he => ?_)⟩
      · exact wp_done ⟨i + 1, ⟨by omega, by omega⟩, rfl⟩
      · exact wp_out (wp_need (oc_pan he))
    · exact wp_out (wp_need oc_ret)
  have hk : kt2 f_tree_each_api_Sig [.slice 5 l .no, .func (.func f_tree_sig) [] []] [] = X_eachSig_sig l := by kernel_rfl
  exact wp_eq2 hk key
theorem e_Spec_spec {l : List (List AV)} (hl : l.length < SMALL) (hf : ∀ r ∈ l, ∃ (k : Int) (o : Int) (n : ByteArray) (a : List (List AV)) (b : List (List AV)) (c : List (List AV)), r = [vI k, vI o, vS n, .slice 4 a .no, .slice 2 b .no, .slice 5 c .no] ∧ ∃ e', evp f_tree_spec [.agg [vI k, vI o, vS n, .slice 4 a .no, .slice 2 b .no, .slice 5 c .no]] .none [] = some ⟨oc e', .none, []⟩) : ∃ e, evp f_tree_each_api_Spec [.slice 6 l .no, .func (.func f_tree_spec) [] []] .none [] = some ⟨oc e, .none, []⟩ := by
  unfold SMALL at hl
  refine kt2_oc ?_
  have key : (X_eachSpec_spec l).wp Pg cfg0 evp [] (fun r => ∃ e, r = ⟨oc e, .none, []⟩) := by
    refine loop2 (fun i : Nat => ⟨tm2 16 [(1, (.func (.func f_tree_spec) [] [])), (6, (.slice 6 (l) .no)), (7, (vI ((↑l.length : Int)))), (8, (vI i))], lm2 16 [], ⟨[], [], .none, 0⟩⟩) (fun i => i ≤ l.length) (fun i => l.length - i) 0 (by kernel_rfl) (Nat.zero_le _) ?_
    intro i hi
    refine wp_eq2 (X_eachSpec_specR_eq l i) ?_
    refine wp_if2 (fun h => ?_) (fun h => ?_)
    · have h := of_decide_eq_true h
      obtain ⟨k, o, n, a, b, c, h1, hx⟩ := hf l[i] (List.getElem_mem (by omega))
      have h2 : l[i]? = some [vI k, vI o, vS n, .slice 4 a .no, .slice 2 b .no, .slice 5 c .no] := by rw [List.getElem?_eq_getElem (by omega), h1]
      rw [kw_succ (x := i) (by omega)]
      refine ⟨k, o, n, a, b, c, ⟨Int.natCast_nonneg i, h2⟩, wp_alt hx ?_ (fun er he => ?_)⟩
      · exact wp_done ⟨i + 1, ⟨by omega, by omega⟩, rfl⟩
      · exact wp_out (wp_need (oc_pan he))
    · exact wp_out (wp_need oc_ret)
  have hk : kt2 f_tree_each_api_Spec [.slice 6 l .no, .func (.func f_tree_spec) [] []] [] = X_eachSpec_spec l := by kernel_rfl
  exact wp_eq2 hk key
theorem e_string_lowName {l : List (List AV)} (hl : l.length < SMALL) (hf : ∀ r ∈ l, ∃ (s : ByteArray), r = [vS s] ∧ ∃ e', evp f_tree_lowName [vS s] .none [] = some ⟨oc e', .none, []⟩) : ∃ e, evp f_tree_each_string [.slice 1 l .no, .func (.func f_tree_lowName) [] []] .none [] = some ⟨oc e, .none, []⟩ := by
  unfold SMALL at hl
  refine kt2_oc ?_
  have key : (X_eachstring_lowName l).wp Pg cfg0 evp [] (fun r => ∃ e, r = ⟨oc e, .none, []⟩) := by
    refine loop2 (fun i : Nat => ⟨tm2 16 [(1, (.func (.func f_tree_lowName) [] [])), (6, (.slice 1 (l) .no)), (7, (vI ((↑l.length : Int)))), (8, (vI i))], lm2 16 [], ⟨[], [], .none, 0⟩⟩) (fun i => i ≤ l.length) (fun i => l.length - i) 0 (by kernel_rfl) (Nat.zero_le _) ?_
    intro i hi
    refine wp_eq2 (X_eachstring_lowNameR_eq l i) ?_
    refine wp_if2 (fun h => ?_) (fun h => ?_)
    · have h := of_decide_eq_true h
      obtain ⟨s, h1, hx⟩ := hf l[i] (List.getElem_mem (by omega))
      have h2 : l[i]? = some [vS s] := by rw [List.getElem?_eq_getElem (by omega), h1]
      rw [kw_succ (x := i) (by omega)]
      refine ⟨s, ⟨Int.natCast_nonneg i, h2⟩, wp_alt hx ?_ (fun er he => ?_)⟩
      · exact wp_done ⟨i + 1, ⟨by omega, by omega⟩, rfl⟩
      · exact wp_out (wp_need (oc_pan he))
    · exact wp_out (wp_need oc_ret)
  have hk : kt2 f_tree_each_string [.slice 1 l .no, .func (.func f_tree_lowName) [] []] [] = X_eachstring_lowName l := by kernel_rfl
  exact wp_eq2 hk key
theorem e_string_highName {l : List (List AV)} (hl : l.length < SMALL) (hf : ∀ r ∈ l, ∃ (s : ByteArray), r = [vS s] ∧ ∃ e', evp f_tree_highName [vS s] .none [] = some ⟨oc e', .none, []⟩) : ∃ e, evp f_tree_each_string [.slice 1 l .no, .func (.func f_tree_highName) [] []] .none [] = some ⟨oc e, .none, []⟩ := by
  unfold SMALL at hl
  refine kt2_oc ?_
  have key : (X_eachstring_highName l).wp Pg cfg0 evp [] (fun r => ∃ e, r = ⟨oc e, .none, []⟩) := by
    refine loop2 (fun i : Nat => ⟨tm2 16 [(1, (.func (.func f_tree_highName) [] [])), (6, (.slice 1 (l) .no)), (7, (vI ((↑l.length : Int)))), (8, (vI i))], lm2 16 [], ⟨[], [], .none, 0⟩⟩) (fun i => i ≤ l.length) (fun i => l.length - i) 0 (by kernel_rfl) (Nat.zero_le _) ?_
    intro i hi
    refine wp_eq2 (X_eachstring_highNameR_eq l i) ?_
    refine wp_if2 (fun h => ?_) (fun h => ?_)
    · have h := of_decide_eq_true h
      obtain ⟨s, h1, hx⟩ := hf l[i] (List.getElem_mem (by omega))
      have h2 : l[i]? = some [vS s] := by rw [List.getElem?_eq_getElem (by omega), h1]
      rw [kw_succ (x := i) (by omega)]
      refine ⟨s, ⟨Int.natCast_nonneg i, h2⟩, wp_alt hx ?_ (fun er he => ?_)⟩
      · exact wp_done ⟨i + 1, ⟨by omega, by omega⟩, rfl⟩
      · exact wp_out (wp_need (oc_pan he))
    · exact wp_out (wp_need oc_ret)
  have hk : kt2 f_tree_each_string [.slice 1 l .no, .func (.func f_tree_highName) [] []] [] = X_eachstring_highName l := by kernel_rfl
  exact wp_eq2 hk key
theorem c_eachlow {p : List (List AV)} (hp : Strs p) (hl : p.length < SMALL) : ∃ e, evp f_tree_each_string [.slice 1 p .no, .func (.func f_tree_lowName) [] []] .none [] = some ⟨oc e, .none, []⟩ :=
  e_string_lowName hl fun r hr => by obtain ⟨s, h1, h2⟩ := hp r hr; exact ⟨s, h1, c_lowName h2⟩
theorem c_eachhigh {p : List (List AV)} (hp : Strs p) (hl : p.length < SMALL) : ∃ e, evp f_tree_each_string [.slice 1 p .no, .func (.func f_tree_highName) [] []] .none [] = some ⟨oc e, .none, []⟩ :=
  e_string_highName hl fun r hr => by obtain ⟨s, h1, h2⟩ := hp r hr; exact ⟨s, h1, c_highName h2⟩
theorem a_Ty {k : Int} {n : ByteArray} {p : List (List AV)} {a : List (List AV)} (hn : n.size < SMALL) (hp : Strs p) (lp : p.length < SMALL) (ea_ty : ∃ er, evp f_tree_each_api_Ty [.slice 4 a .no, .func (.func f_tree_ty) [] []] .none [] = some ⟨oc er, .none, []⟩) : ∃ er, evp f_tree_ty [.agg [vI k, vS n, .slice 1 p .no, .slice 4 a .no]] .none [] = some ⟨oc er, .none, []⟩ := by
  have w4 : ((X_Tys3 k n p a).K ⟨tm2 69 [(1, (.ref [(vI (k)), (vS (n)), (.slice 1 (p) .no), (.slice 4 (a) .no)]))], lm2 69 [], ⟨[], [], .none, 0⟩⟩).wp Pg cfg0 evp [] (fun r => ∃ er, r = ⟨oc er, .none, []⟩) := wp_eq2 (X_Tys4_eq k n p a) (by
    repeat' first
      | exact oc_ret
      | exact oc_pan (by decide)
      | exact oc_pan (by assumption)
      | refine wp_need ?_
      | refine wp_out ?_
      | refine wp_stage ?_
      | refine wp_alt (c_ask _) ?_ (fun er he => ?_)
      | refine wp_alt (c_count _ _ _) ?_ (fun er he => ?_)
      | refine wp_parts (fun i0 j0 k0 => ?_)
      | refine wp_alt (c_lowName hn) ?_ (fun er he => ?_)
      | refine wp_alt (c_highName hn) ?_ (fun er he => ?_)
      | refine wp_callB2 (c_Tyvar hn) (fun b => ?_)
      | refine wp_alt (c_lowPath hp) ?_ (fun er he => ?_)
      | refine wp_alt (c_highPath hp) ?_ (fun er he => ?_)
      | refine wp_callB2 (c_basic hp) (fun b => ?_)
      | refine wp_alt (c_eachlow hp lp) ?_ (fun er he => ?_)
      | refine wp_alt (c_eachhigh hp lp) ?_ (fun er he => ?_)
      | refine wp_alt ea_ty ?_ (fun er he => ?_)
      | refine wp_if2 (fun h => ?_) (fun h => ?_))
  have w3 : ((X_Tys2 k n p a).K ⟨tm2 69 [(1, (.ref [(vI (k)), (vS (n)), (.slice 1 (p) .no), (.slice 4 (a) .no)]))], lm2 69 [], ⟨[], [], .none, 0⟩⟩).wp Pg cfg0 evp [] (fun r => ∃ er, r = ⟨oc er, .none, []⟩) := wp_eq2 (X_Tys3_eq k n p a) (by
    repeat' first
      | exact oc_ret
      | exact oc_pan (by decide)
      | exact oc_pan (by assumption)
      | exact wp_done (w4)
      | refine wp_need ?_
      | refine wp_out ?_
      | refine wp_stage ?_
      | refine wp_alt (c_ask _) ?_ (fun er he => ?_)
      | refine wp_alt (c_count _ _ _) ?_ (fun er he => ?_)
      | refine wp_parts (fun i0 j0 k0 => ?_)
      | refine wp_alt (c_lowName hn) ?_ (fun er he => ?_)
      | refine wp_alt (c_highName hn) ?_ (fun er he => ?_)
      | refine wp_callB2 (c_Tyvar hn) (fun b => ?_)
      | refine wp_alt (c_lowPath hp) ?_ (fun er he => ?_)
      | refine wp_alt (c_highPath hp) ?_ (fun er he => ?_)
      | refine wp_callB2 (c_basic hp) (fun b => ?_)
      | refine wp_alt (c_eachlow hp lp) ?_ (fun er he => ?_)
      | refine wp_alt (c_eachhigh hp lp) ?_ (fun er he => ?_)
      | refine wp_alt ea_ty ?_ (fun er he => ?_)
      | refine wp_if2 (fun h => ?_) (fun h => ?_))
  have w2 : ((X_Tys1 k n p a).K ⟨tm2 69 [(1, (.ref [(vI (k)), (vS (n)), (.slice 1 (p) .no), (.slice 4 (a) .no)]))], lm2 69 [], ⟨[], [], .none, 0⟩⟩).wp Pg cfg0 evp [] (fun r => ∃ er, r = ⟨oc er, .none, []⟩) := wp_eq2 (X_Tys2_eq k n p a) (by
    repeat' first
      | exact oc_ret
      | exact oc_pan (by decide)
      | exact oc_pan (by assumption)
      | exact wp_done (w4)
      | exact wp_done (w3)
      | refine wp_need ?_
      | refine wp_out ?_
      | refine wp_stage ?_
      | refine wp_alt (c_ask _) ?_ (fun er he => ?_)
      | refine wp_alt (c_count _ _ _) ?_ (fun er he => ?_)
      | refine wp_parts (fun i0 j0 k0 => ?_)
      | refine wp_alt (c_lowName hn) ?_ (fun er he => ?_)
      | refine wp_alt (c_highName hn) ?_ (fun er he => ?_)
      | refine wp_callB2 (c_Tyvar hn) (fun b => ?_)
      | refine wp_alt (c_lowPath hp) ?_ (fun er he => ?_)
      | refine wp_alt (c_highPath hp) ?_ (fun er he => ?_)
      | refine wp_callB2 (c_basic hp) (fun b => ?_)
      | refine wp_alt (c_eachlow hp lp) ?_ (fun er he => ?_)
      | refine wp_alt (c_eachhigh hp lp) ?_ (fun er he => ?_)
      | refine wp_alt ea_ty ?_ (fun er he => ?_)
      | refine wp_if2 (fun h => ?_) (fun h => ?_))
  have w1 : ((X_Ty k n p a).K ⟨tm2 69 [(1, (.ref [(vI (k)), (vS (n)), (.slice 1 (p) .no), (.slice 4 (a) .no)]))], lm2 69 [], ⟨[], [], .none, 0⟩⟩).wp Pg cfg0 evp [] (fun r => ∃ er, r = ⟨oc er, .none, []⟩) := wp_eq2 (X_Tys1_eq k n p a) (by
    repeat' first
      | exact oc_ret
      | exact oc_pan (by decide)
      | exact oc_pan (by assumption)
      | exact wp_done (w4)
      | exact wp_done (w3)
      | exact wp_done (w2)
      | refine wp_need ?_
      | refine wp_out ?_
      | refine wp_stage ?_
      | refine wp_alt (c_ask _) ?_ (fun er he => ?_)
      | refine wp_alt (c_count _ _ _) ?_ (fun er he => ?_)
      | refine wp_parts (fun i0 j0 k0 => ?_)
      | refine wp_alt (c_lowName hn) ?_ (fun er he => ?_)
      | refine wp_alt (c_highName hn) ?_ (fun er he => ?_)
      | refine wp_callB2 (c_Tyvar hn) (fun b => ?_)
      | refine wp_alt (c_lowPath hp) ?_ (fun er he => ?_)
      | refine wp_alt (c_highPath hp) ?_ (fun er he => ?_)
      | refine wp_callB2 (c_basic hp) (fun b => ?_)
      | refine wp_alt (c_eachlow hp lp) ?_ (fun er he => ?_)
      | refine wp_alt (c_eachhigh hp lp) ?_ (fun er he => ?_)
      | refine wp_alt ea_ty ?_ (fun er he => ?_)
      | refine wp_if2 (fun h => ?_) (fun h => ?_))
  exact kt2_oc (wp_eq2 (X_Ty_eq k n p a) (by
    repeat' first
      | exact oc_ret
      | exact oc_pan (by decide)
      | exact oc_pan (by assumption)
      | exact wp_done (w4)
      | exact wp_done (w3)
      | exact wp_done (w2)
      | exact wp_done (w1)
      | refine wp_need ?_
      | refine wp_out ?_
      | refine wp_stage ?_
      | refine wp_alt (c_ask _) ?_ (fun er he => ?_)
      | refine wp_alt (c_count _ _ _) ?_ (fun er he => ?_)
      | refine wp_parts (fun i0 j0 k0 => ?_)
      | refine wp_alt (c_lowName hn) ?_ (fun er he => ?_)
      | refine wp_alt (c_highName hn) ?_ (fun er he => ?_)
      | refine wp_callB2 (c_Tyvar hn) (fun b => ?_)
      | refine wp_alt (c_lowPath hp) ?_ (fun er he => ?_)
      | refine wp_alt (c_highPath hp) ?_ (fun er he => ?_)
      | refine wp_callB2 (c_basic hp) (fun b => ?_)
      | refine wp_alt (c_eachlow hp lp) ?_ (fun er he => ?_)
      | refine wp_alt (c_eachhigh hp lp) ?_ (fun er he => ?_)
      | refine wp_alt ea_ty ?_ (fun er he => ?_)
      | refine wp_if2 (fun h => ?_) (fun h => ?_)))
theorem a_Pat {k : Int} {n : ByteArray} {p : List (List AV)} {m : Int} {a : List (List AV)} (hn : n.size < SMALL) (hp : Strs p) (lp : p.length < SMALL) (ea_pat : ∃ er, evp f_tree_each_api_Pat [.slice 5 a .no, .func (.func f_tree_pat) [] []] .none [] = some ⟨oc er, .none, []⟩) : ∃ er, evp f_tree_pat [.agg [vI k, vS n, .slice 1 p .no, vI m, .slice 5 a .no]] .none [] = some ⟨oc er, .none, []⟩ := by
  have w4 : ((X_Pats3 k n p m a).K ⟨tm2 82 [(1, (.ref [(vI (k)), (vS (n)), (.slice 1 (p) .no), (vI (m)), (.slice 5 (a) .no)]))], lm2 82 [], ⟨[], [], .none, 0⟩⟩).wp Pg cfg0 evp [] (fun r => ∃ er, r = ⟨oc er, .none, []⟩) := wp_eq2 (X_Pats4_eq k n p m a) (by
    repeat' first
      | exact oc_ret
      | exact oc_pan (by decide)
      | exact oc_pan (by assumption)
      | refine wp_need ?_
      | refine wp_out ?_
      | refine wp_stage ?_
      | refine wp_alt (c_ask _) ?_ (fun er he => ?_)
      | refine wp_alt (c_count _ _ _) ?_ (fun er he => ?_)
      | refine wp_parts (fun i0 j0 k0 => ?_)
      | refine wp_alt (c_lowName hn) ?_ (fun er he => ?_)
      | refine wp_alt (c_highName hn) ?_ (fun er he => ?_)
      | refine wp_callB2 (c_Tyvar hn) (fun b => ?_)
      | refine wp_alt (c_lowPath hp) ?_ (fun er he => ?_)
      | refine wp_alt (c_highPath hp) ?_ (fun er he => ?_)
      | refine wp_callB2 (c_basic hp) (fun b => ?_)
      | refine wp_alt (c_eachlow hp lp) ?_ (fun er he => ?_)
      | refine wp_alt (c_eachhigh hp lp) ?_ (fun er he => ?_)
      | refine wp_alt ea_pat ?_ (fun er he => ?_)
      | refine wp_if2 (fun h => ?_) (fun h => ?_))
  have w3 : ((X_Pats2 k n p m a).K ⟨tm2 82 [(1, (.ref [(vI (k)), (vS (n)), (.slice 1 (p) .no), (vI (m)), (.slice 5 (a) .no)]))], lm2 82 [], ⟨[], [], .none, 0⟩⟩).wp Pg cfg0 evp [] (fun r => ∃ er, r = ⟨oc er, .none, []⟩) := wp_eq2 (X_Pats3_eq k n p m a) (by
    repeat' first
      | exact oc_ret
      | exact oc_pan (by decide)
      | exact oc_pan (by assumption)
      | exact wp_done (w4)
      | refine wp_need ?_
      | refine wp_out ?_
      | refine wp_stage ?_
      | refine wp_alt (c_ask _) ?_ (fun er he => ?_)
      | refine wp_alt (c_count _ _ _) ?_ (fun er he => ?_)
      | refine wp_parts (fun i0 j0 k0 => ?_)
      | refine wp_alt (c_lowName hn) ?_ (fun er he => ?_)
      | refine wp_alt (c_highName hn) ?_ (fun er he => ?_)
      | refine wp_callB2 (c_Tyvar hn) (fun b => ?_)
      | refine wp_alt (c_lowPath hp) ?_ (fun er he => ?_)
      | refine wp_alt (c_highPath hp) ?_ (fun er he => ?_)
      | refine wp_callB2 (c_basic hp) (fun b => ?_)
      | refine wp_alt (c_eachlow hp lp) ?_ (fun er he => ?_)
      | refine wp_alt (c_eachhigh hp lp) ?_ (fun er he => ?_)
      | refine wp_alt ea_pat ?_ (fun er he => ?_)
      | refine wp_if2 (fun h => ?_) (fun h => ?_))
  have w2 : ((X_Pats1 k n p m a).K ⟨tm2 82 [(1, (.ref [(vI (k)), (vS (n)), (.slice 1 (p) .no), (vI (m)), (.slice 5 (a) .no)]))], lm2 82 [], ⟨[], [], .none, 0⟩⟩).wp Pg cfg0 evp [] (fun r => ∃ er, r = ⟨oc er, .none, []⟩) := wp_eq2 (X_Pats2_eq k n p m a) (by
    repeat' first
      | exact oc_ret
      | exact oc_pan (by decide)
      | exact oc_pan (by assumption)
      | exact wp_done (w4)
      | exact wp_done (w3)
      | refine wp_need ?_
      | refine wp_out ?_
      | refine wp_stage ?_
      | refine wp_alt (c_ask _) ?_ (fun er he => ?_)
      | refine wp_alt (c_count _ _ _) ?_ (fun er he => ?_)
      | refine wp_parts (fun i0 j0 k0 => ?_)
      | refine wp_alt (c_lowName hn) ?_ (fun er he => ?_)
      | refine wp_alt (c_highName hn) ?_ (fun er he => ?_)
      | refine wp_callB2 (c_Tyvar hn) (fun b => ?_)
      | refine wp_alt (c_lowPath hp) ?_ (fun er he => ?_)
      | refine wp_alt (c_highPath hp) ?_ (fun er he => ?_)
      | refine wp_callB2 (c_basic hp) (fun b => ?_)
      | refine wp_alt (c_eachlow hp lp) ?_ (fun er he => ?_)
      | refine wp_alt (c_eachhigh hp lp) ?_ (fun er he => ?_)
      | refine wp_alt ea_pat ?_ (fun er he => ?_)
      | refine wp_if2 (fun h => ?_) (fun h => ?_))
  have w1 : ((X_Pat k n p m a).K ⟨tm2 82 [(1, (.ref [(vI (k)), (vS (n)), (.slice 1 (p) .no), (vI (m)), (.slice 5 (a) .no)]))], lm2 82 [], ⟨[], [], .none, 0⟩⟩).wp Pg cfg0 evp [] (fun r => ∃ er, r = ⟨oc er, .none, []⟩) := wp_eq2 (X_Pats1_eq k n p m a) (by
    repeat' first
      | exact oc_ret
      | exact oc_pan (by decide)
      | exact oc_pan (by assumption)
      | exact wp_done (w4)
      | exact wp_done (w3)
      | exact wp_done (w2)
      | refine wp_need ?_
      | refine wp_out ?_
      | refine wp_stage ?_
      | refine wp_alt (c_ask _) ?_ (fun er he => ?_)
      | refine wp_alt (c_count _ _ _) ?_ (fun er he => ?_)
      | refine wp_parts (fun i0 j0 k0 => ?_)
      | refine wp_alt (c_lowName hn) ?_ (fun er he => ?_)
      | refine wp_alt (c_highName hn) ?_ (fun er he => ?_)
      | refine wp_callB2 (c_Tyvar hn) (fun b => ?_)
      | refine wp_alt (c_lowPath hp) ?_ (fun er he => ?_)
      | refine wp_alt (c_highPath hp) ?_ (fun er he => ?_)
      | refine wp_callB2 (c_basic hp) (fun b => ?_)
      | refine wp_alt (c_eachlow hp lp) ?_ (fun er he => ?_)
      | refine wp_alt (c_eachhigh hp lp) ?_ (fun er he => ?_)
      | refine wp_alt ea_pat ?_ (fun er he => ?_)
      | refine wp_if2 (fun h => ?_) (fun h => ?_))
  exact kt2_oc (wp_eq2 (X_Pat_eq k n p m a) (by
    repeat' first
      | exact oc_ret
      | exact oc_pan (by decide)
      | exact oc_pan (by assumption)
      | exact wp_done (w4)
      | exact wp_done (w3)
      | exact wp_done (w2)
      | exact wp_done (w1)
      | refine wp_need ?_
      | refine wp_out ?_
      | refine wp_stage ?_
      | refine wp_alt (c_ask _) ?_ (fun er he => ?_)
      | refine wp_alt (c_count _ _ _) ?_ (fun er he => ?_)
      | refine wp_parts (fun i0 j0 k0 => ?_)
      | refine wp_alt (c_lowName hn) ?_ (fun er he => ?_)
      | refine wp_alt (c_highName hn) ?_ (fun er he => ?_)
      | refine wp_callB2 (c_Tyvar hn) (fun b => ?_)
      | refine wp_alt (c_lowPath hp) ?_ (fun er he => ?_)
      | refine wp_alt (c_highPath hp) ?_ (fun er he => ?_)
      | refine wp_callB2 (c_basic hp) (fun b => ?_)
      | refine wp_alt (c_eachlow hp lp) ?_ (fun er he => ?_)
      | refine wp_alt (c_eachhigh hp lp) ?_ (fun er he => ?_)
      | refine wp_alt ea_pat ?_ (fun er he => ?_)
      | refine wp_if2 (fun h => ?_) (fun h => ?_)))
theorem a_Exp {k : Int} {o : Int} {m : Int} {p : List (List AV)} {a : List (List AV)} {b : List (List AV)} {c : List (List AV)} {d : List (List AV)} (hp : Strs p) (lp : p.length < SMALL) (ea_pat : ∃ er, evp f_tree_each_api_Pat [.slice 5 a .no, .func (.func f_tree_pat) [] []] .none [] = some ⟨oc er, .none, []⟩) (eb_exp : ∃ er, evp f_tree_each_api_Exp [.slice 8 b .no, .func (.func f_tree_exp) [] []] .none [] = some ⟨oc er, .none, []⟩) (ec_dec : ∃ er, evp f_tree_each_api_Dec [.slice 9 c .no, .func (.func f_tree_dec) [] []] .none [] = some ⟨oc er, .none, []⟩) (ec_exp_1 : ∃ er, evp f_tree_each_api_Dec [.slice 9 c .no, .func (.func f_tree_exp_1) [] []] .none [] = some ⟨oc er, .none, []⟩) (ed_ty : ∃ er, evp f_tree_each_api_Ty [.slice 4 d .no, .func (.func f_tree_ty) [] []] .none [] = some ⟨oc er, .none, []⟩) : ∃ er, evp f_tree_exp [.agg [vI k, vI o, vI m, .slice 1 p .no, .slice 5 a .no, .slice 8 b .no, .slice 9 c .no, .slice 4 d .no]] .none [] = some ⟨oc er, .none, []⟩ := by
  have w9 : ∀ (i : Int) (i1 : Int) (i2 : Int) (q5x0 : Int) (q5x1 : Int), ((X_Exps8 k o m p a b c d i i1 i2 q5x0 q5x1).K ⟨tm2 131 [(1, (.ref [(vI (k)), (vI (o)), (vI (m)), (.slice 1 (p) .no), (.slice 5 (a) .no), (.slice 8 (b) .no), (.slice 9 (c) .no), (.slice 4 (d) .no)]))], lm2 131 [], ⟨[], [], .none, 0⟩⟩).wp Pg cfg0 evp [] (fun r => ∃ er, r = ⟨oc er, .none, []⟩) := fun i i1 i2 q5x0 q5x1 => wp_eq2 (X_Exps9_eq k o m p a b c d i i1 i2 q5x0 q5x1) (by
    repeat' first
      | exact oc_ret
      | exact oc_pan (by decide)
      | exact oc_pan (by assumption)
      | refine wp_need ?_
      | refine wp_out ?_
      | refine wp_stage ?_
      | refine wp_alt (c_ask _) ?_ (fun er he => ?_)
      | refine wp_alt (c_count _ _ _) ?_ (fun er he => ?_)
      | refine wp_parts (fun i0 j0 k0 => ?_)
      | refine wp_alt (c_lowPath hp) ?_ (fun er he => ?_)
      | refine wp_alt (c_highPath hp) ?_ (fun er he => ?_)
      | refine wp_callB2 (c_basic hp) (fun b => ?_)
      | refine wp_alt (c_eachlow hp lp) ?_ (fun er he => ?_)
      | refine wp_alt (c_eachhigh hp lp) ?_ (fun er he => ?_)
      | refine wp_alt ea_pat ?_ (fun er he => ?_)
      | refine wp_alt eb_exp ?_ (fun er he => ?_)
      | refine wp_alt ec_dec ?_ (fun er he => ?_)
      | refine wp_alt ec_exp_1 ?_ (fun er he => ?_)
      | refine wp_alt ed_ty ?_ (fun er he => ?_)
      | refine wp_if2 (fun h => ?_) (fun h => ?_))
  have w8 : ∀ (i : Int) (i1 : Int) (i2 : Int) (q5x0 : Int) (q5x1 : Int), ((X_Exps7 k o m p a b c d i i1 i2 q5x0 q5x1).T.T.K ⟨tm2 131 [(1, (.ref [(vI (k)), (vI (o)), (vI (m)), (.slice 1 (p) .no), (.slice 5 (a) .no), (.slice 8 (b) .no), (.slice 9 (c) .no), (.slice 4 (d) .no)]))], lm2 131 [], ⟨[], [], .none, 0⟩⟩).wp Pg cfg0 evp [] (fun r => ∃ er, r = ⟨oc er, .none, []⟩) := fun i i1 i2 q5x0 q5x1 => wp_eq2 (X_Exps8_eq k o m p a b c d i i1 i2 q5x0 q5x1) (by
    repeat' first
      | exact oc_ret
      | exact oc_pan (by decide)
      | exact oc_pan (by assumption)
      | exact wp_done (w9 _ _ _ _ _)
      | refine wp_need ?_
      | refine wp_out ?_
      | refine wp_stage ?_
      | refine wp_alt (c_ask _) ?_ (fun er he => ?_)
      | refine wp_alt (c_count _ _ _) ?_ (fun er he => ?_)
      | refine wp_parts (fun i0 j0 k0 => ?_)
      | refine wp_alt (c_lowPath hp) ?_ (fun er he => ?_)
      | refine wp_alt (c_highPath hp) ?_ (fun er he => ?_)
      | refine wp_callB2 (c_basic hp) (fun b => ?_)
      | refine wp_alt (c_eachlow hp lp) ?_ (fun er he => ?_)
      | refine wp_alt (c_eachhigh hp lp) ?_ (fun er he => ?_)
      | refine wp_alt ea_pat ?_ (fun er he => ?_)
      | refine wp_alt eb_exp ?_ (fun er he => ?_)
      | refine wp_alt ec_dec ?_ (fun er he => ?_)
      | refine wp_alt ec_exp_1 ?_ (fun er he => ?_)
      | refine wp_alt ed_ty ?_ (fun er he => ?_)
      | refine wp_if2 (fun h => ?_) (fun h => ?_))
  have w7 : ∀ (i : Int) (i1 : Int) (i2 : Int) (q5x0 : Int) (q5x1 : Int), ((X_Exps6 k o m p a b c d i i1 i2 q5x0 q5x1).K ⟨tm2 131 [(1, (.ref [(vI (k)), (vI (o)), (vI (m)), (.slice 1 (p) .no), (.slice 5 (a) .no), (.slice 8 (b) .no), (.slice 9 (c) .no), (.slice 4 (d) .no)]))], lm2 131 [], ⟨[], [], .none, 0⟩⟩).wp Pg cfg0 evp [] (fun r => ∃ er, r = ⟨oc er, .none, []⟩) := fun i i1 i2 q5x0 q5x1 => wp_eq2 (X_Exps7_eq k o m p a b c d i i1 i2 q5x0 q5x1) (by
    repeat' first
      | exact oc_ret
      | exact oc_pan (by decide)
      | exact oc_pan (by assumption)
      | exact wp_done (w9 _ _ _ _ _)
      | exact wp_done (w8 _ _ _ _ _)
      | refine wp_need ?_
      | refine wp_out ?_
      | refine wp_stage ?_
      | refine wp_alt (c_ask _) ?_ (fun er he => ?_)
      | refine wp_alt (c_count _ _ _) ?_ (fun er he => ?_)
      | refine wp_parts (fun i0 j0 k0 => ?_)
      | refine wp_alt (c_lowPath hp) ?_ (fun er he => ?_)
      | refine wp_alt (c_highPath hp) ?_ (fun er he => ?_)
      | refine wp_callB2 (c_basic hp) (fun b => ?_)
      | refine wp_alt (c_eachlow hp lp) ?_ (fun er he => ?_)
      | refine wp_alt (c_eachhigh hp lp) ?_ (fun er he => ?_)
      | refine wp_alt ea_pat ?_ (fun er he => ?_)
      | refine wp_alt eb_exp ?_ (fun er he => ?_)
      | refine wp_alt ec_dec ?_ (fun er he => ?_)
      | refine wp_alt ec_exp_1 ?_ (fun er he => ?_)
      | refine wp_alt ed_ty ?_ (fun er he => ?_)
      | refine wp_if2 (fun h => ?_) (fun h => ?_))
  have w6 : ∀ (i : Int) (i1 : Int) (i2 : Int) (q5x0 : Int) (q5x1 : Int), ((X_Exps5 k o m p a b c d i i1 i2 q5x0 q5x1).K ⟨tm2 131 [(1, (.ref [(vI (k)), (vI (o)), (vI (m)), (.slice 1 (p) .no), (.slice 5 (a) .no), (.slice 8 (b) .no), (.slice 9 (c) .no), (.slice 4 (d) .no)]))], lm2 131 [], ⟨[], [], .none, 0⟩⟩).wp Pg cfg0 evp [] (fun r => ∃ er, r = ⟨oc er, .none, []⟩) := fun i i1 i2 q5x0 q5x1 => wp_eq2 (X_Exps6_eq k o m p a b c d i i1 i2 q5x0 q5x1) (by
    repeat' first
      | exact oc_ret
      | exact oc_pan (by decide)
      | exact oc_pan (by assumption)
      | exact wp_done (w9 _ _ _ _ _)
      | exact wp_done (w8 _ _ _ _ _)
      | exact wp_done (w7 _ _ _ _ _)
      | refine wp_need ?_
      | refine wp_out ?_
      | refine wp_stage ?_
      | refine wp_alt (c_ask _) ?_ (fun er he => ?_)
      | refine wp_alt (c_count _ _ _) ?_ (fun er he => ?_)
      | refine wp_parts (fun i0 j0 k0 => ?_)
      | refine wp_alt (c_lowPath hp) ?_ (fun er he => ?_)
      | refine wp_alt (c_highPath hp) ?_ (fun er he => ?_)
      | refine wp_callB2 (c_basic hp) (fun b => ?_)
      | refine wp_alt (c_eachlow hp lp) ?_ (fun er he => ?_)
      | refine wp_alt (c_eachhigh hp lp) ?_ (fun er he => ?_)
      | refine wp_alt ea_pat ?_ (fun er he => ?_)
      | refine wp_alt eb_exp ?_ (fun er he => ?_)
      | refine wp_alt ec_dec ?_ (fun er he => ?_)
      | refine wp_alt ec_exp_1 ?_ (fun er he => ?_)
      | refine wp_alt ed_ty ?_ (fun er he => ?_)
      | refine wp_if2 (fun h => ?_) (fun h => ?_))
  have w5 : ∀ (i : Int) (i1 : Int) (i2 : Int) (q5x0 : Int) (q5x1 : Int), (((((X_Exps4 k o m p a b c d).I i).I i1).I i2).T.K ⟨tm2 131 [(1, (.ref [(vI (k)), (vI (o)), (vI (m)), (.slice 1 (p) .no), (.slice 5 (a) .no), (.slice 8 (b) .no), (.slice 9 (c) .no), (.slice 4 (d) .no)])), (2, (vI (q5x0))), (3, (vI (q5x1))), (4, (vI (i2)))], lm2 131 [], ⟨[], [], .none, 0⟩⟩).wp Pg cfg0 evp [] (fun r => ∃ er, r = ⟨oc er, .none, []⟩) := fun i i1 i2 q5x0 q5x1 => wp_eq2 (X_Exps5_eq k o m p a b c d i i1 i2 q5x0 q5x1) (by
    repeat' first
      | exact oc_ret
      | exact oc_pan (by decide)
      | exact oc_pan (by assumption)
      | exact wp_done (w9 _ _ _ _ _)
      | exact wp_done (w8 _ _ _ _ _)
      | exact wp_done (w7 _ _ _ _ _)
      | exact wp_done (w6 _ _ _ _ _)
      | refine wp_need ?_
      | refine wp_out ?_
      | refine wp_stage ?_
      | refine wp_alt (c_ask _) ?_ (fun er he => ?_)
      | refine wp_alt (c_count _ _ _) ?_ (fun er he => ?_)
      | refine wp_parts (fun i0 j0 k0 => ?_)
      | refine wp_alt (c_lowPath hp) ?_ (fun er he => ?_)
      | refine wp_alt (c_highPath hp) ?_ (fun er he => ?_)
      | refine wp_callB2 (c_basic hp) (fun b => ?_)
      | refine wp_alt (c_eachlow hp lp) ?_ (fun er he => ?_)
      | refine wp_alt (c_eachhigh hp lp) ?_ (fun er he => ?_)
      | refine wp_alt ea_pat ?_ (fun er he => ?_)
      | refine wp_alt eb_exp ?_ (fun er he => ?_)
      | refine wp_alt ec_dec ?_ (fun er he => ?_)
      | refine wp_alt ec_exp_1 ?_ (fun er he => ?_)
      | refine wp_alt ed_ty ?_ (fun er he => ?_)
      | refine wp_if2 (fun h => ?_) (fun h => ?_))
  have w4 : ((X_Exps3 k o m p a b c d).K ⟨tm2 131 [(1, (.ref [(vI (k)), (vI (o)), (vI (m)), (.slice 1 (p) .no), (.slice 5 (a) .no), (.slice 8 (b) .no), (.slice 9 (c) .no), (.slice 4 (d) .no)]))], lm2 131 [], ⟨[], [], .none, 0⟩⟩).wp Pg cfg0 evp [] (fun r => ∃ er, r = ⟨oc er, .none, []⟩) := wp_eq2 (X_Exps4_eq k o m p a b c d) (by
    repeat' first
      | exact oc_ret
      | exact oc_pan (by decide)
      | exact oc_pan (by assumption)
      | exact wp_done (w9 _ _ _ _ _)
      | exact wp_done (w8 _ _ _ _ _)
      | exact wp_done (w7 _ _ _ _ _)
      | exact wp_done (w6 _ _ _ _ _)
      | exact wp_done (w5 _ _ _ _ _)
      | refine wp_need ?_
      | refine wp_out ?_
      | refine wp_stage ?_
      | refine wp_alt (c_ask _) ?_ (fun er he => ?_)
      | refine wp_alt (c_count _ _ _) ?_ (fun er he => ?_)
      | refine wp_parts (fun i0 j0 k0 => ?_)
      | refine wp_alt (c_lowPath hp) ?_ (fun er he => ?_)
      | refine wp_alt (c_highPath hp) ?_ (fun er he => ?_)
      | refine wp_callB2 (c_basic hp) (fun b => ?_)
      | refine wp_alt (c_eachlow hp lp) ?_ (fun er he => ?_)
      | refine wp_alt (c_eachhigh hp lp) ?_ (fun er he => ?_)
      | refine wp_alt ea_pat ?_ (fun er he => ?_)
      | refine wp_alt eb_exp ?_ (fun er he => ?_)
      | refine wp_alt ec_dec ?_ (fun er he => ?_)
      | refine wp_alt ec_exp_1 ?_ (fun er he => ?_)
      | refine wp_alt ed_ty ?_ (fun er he => ?_)
      | refine wp_if2 (fun h => ?_) (fun h => ?_))
  have w3 : ((X_Exps2 k o m p a b c d).K ⟨tm2 131 [(1, (.ref [(vI (k)), (vI (o)), (vI (m)), (.slice 1 (p) .no), (.slice 5 (a) .no), (.slice 8 (b) .no), (.slice 9 (c) .no), (.slice 4 (d) .no)]))], lm2 131 [], ⟨[], [], .none, 0⟩⟩).wp Pg cfg0 evp [] (fun r => ∃ er, r = ⟨oc er, .none, []⟩) := wp_eq2 (X_Exps3_eq k o m p a b c d) (by
    repeat' first
      | exact oc_ret
      | exact oc_pan (by decide)
      | exact oc_pan (by assumption)
      | exact wp_done (w9 _ _ _ _ _)
      | exact wp_done (w8 _ _ _ _ _)
      | exact wp_done (w7 _ _ _ _ _)
      | exact wp_done (w6 _ _ _ _ _)
      | exact wp_done (w5 _ _ _ _ _)
      | exact wp_done (w4)
      | refine wp_need ?_
      | refine wp_out ?_
      | refine wp_stage ?_
      | refine wp_alt (c_ask _) ?_ (fun er he => ?_)
      | refine wp_alt (c_count _ _ _) ?_ (fun er he => ?_)
      | refine wp_parts (fun i0 j0 k0 => ?_)
      | refine wp_alt (c_lowPath hp) ?_ (fun er he => ?_)
      | refine wp_alt (c_highPath hp) ?_ (fun er he => ?_)
      | refine wp_callB2 (c_basic hp) (fun b => ?_)
      | refine wp_alt (c_eachlow hp lp) ?_ (fun er he => ?_)
      | refine wp_alt (c_eachhigh hp lp) ?_ (fun er he => ?_)
      | refine wp_alt ea_pat ?_ (fun er he => ?_)
      | refine wp_alt eb_exp ?_ (fun er he => ?_)
      | refine wp_alt ec_dec ?_ (fun er he => ?_)
      | refine wp_alt ec_exp_1 ?_ (fun er he => ?_)
      | refine wp_alt ed_ty ?_ (fun er he => ?_)
      | refine wp_if2 (fun h => ?_) (fun h => ?_))
  have w2 : ((X_Exps1 k o m p a b c d).K ⟨tm2 131 [(1, (.ref [(vI (k)), (vI (o)), (vI (m)), (.slice 1 (p) .no), (.slice 5 (a) .no), (.slice 8 (b) .no), (.slice 9 (c) .no), (.slice 4 (d) .no)]))], lm2 131 [], ⟨[], [], .none, 0⟩⟩).wp Pg cfg0 evp [] (fun r => ∃ er, r = ⟨oc er, .none, []⟩) := wp_eq2 (X_Exps2_eq k o m p a b c d) (by
    repeat' first
      | exact oc_ret
      | exact oc_pan (by decide)
      | exact oc_pan (by assumption)
      | exact wp_done (w9 _ _ _ _ _)
      | exact wp_done (w8 _ _ _ _ _)
      | exact wp_done (w7 _ _ _ _ _)
      | exact wp_done (w6 _ _ _ _ _)
      | exact wp_done (w5 _ _ _ _ _)
      | exact wp_done (w4)
      | exact wp_done (w3)
      | refine wp_need ?_
      | refine wp_out ?_
      | refine wp_stage ?_
      | refine wp_alt (c_ask _) ?_ (fun er he => ?_)
      | refine wp_alt (c_count _ _ _) ?_ (fun er he => ?_)
      | refine wp_parts (fun i0 j0 k0 => ?_)
      | refine wp_alt (c_lowPath hp) ?_ (fun er he => ?_)
      | refine wp_alt (c_highPath hp) ?_ (fun er he => ?_)
      | refine wp_callB2 (c_basic hp) (fun b => ?_)
      | refine wp_alt (c_eachlow hp lp) ?_ (fun er he => ?_)
      | refine wp_alt (c_eachhigh hp lp) ?_ (fun er he => ?_)
      | refine wp_alt ea_pat ?_ (fun er he => ?_)
      | refine wp_alt eb_exp ?_ (fun er he => ?_)
      | refine wp_alt ec_dec ?_ (fun er he => ?_)
      | refine wp_alt ec_exp_1 ?_ (fun er he => ?_)
      | refine wp_alt ed_ty ?_ (fun er he => ?_)
      | refine wp_if2 (fun h => ?_) (fun h => ?_))
  have w1 : ((X_Exp k o m p a b c d).K ⟨tm2 131 [(1, (.ref [(vI (k)), (vI (o)), (vI (m)), (.slice 1 (p) .no), (.slice 5 (a) .no), (.slice 8 (b) .no), (.slice 9 (c) .no), (.slice 4 (d) .no)]))], lm2 131 [], ⟨[], [], .none, 0⟩⟩).wp Pg cfg0 evp [] (fun r => ∃ er, r = ⟨oc er, .none, []⟩) := wp_eq2 (X_Exps1_eq k o m p a b c d) (by
    repeat' first
      | exact oc_ret
      | exact oc_pan (by decide)
      | exact oc_pan (by assumption)
      | exact wp_done (w9 _ _ _ _ _)
      | exact wp_done (w8 _ _ _ _ _)
      | exact wp_done (w7 _ _ _ _ _)
      | exact wp_done (w6 _ _ _ _ _)
      | exact wp_done (w5 _ _ _ _ _)
      | exact wp_done (w4)
      | exact wp_done (w3)
      | exact wp_done (w2)
      | refine wp_need ?_
      | refine wp_out ?_
      | refine wp_stage ?_
      | refine wp_alt (c_ask _) ?_ (fun er he => ?_)
      | refine wp_alt (c_count _ _ _) ?_ (fun er he => ?_)
      | refine wp_parts (fun i0 j0 k0 => ?_)
      | refine wp_alt (c_lowPath hp) ?_ (fun er he => ?_)
      | refine wp_alt (c_highPath hp) ?_ (fun er he => ?_)
      | refine wp_callB2 (c_basic hp) (fun b => ?_)
      | refine wp_alt (c_eachlow hp lp) ?_ (fun er he => ?_)
      | refine wp_alt (c_eachhigh hp lp) ?_ (fun er he => ?_)
      | refine wp_alt ea_pat ?_ (fun er he => ?_)
      | refine wp_alt eb_exp ?_ (fun er he => ?_)
      | refine wp_alt ec_dec ?_ (fun er he => ?_)
      | refine wp_alt ec_exp_1 ?_ (fun er he => ?_)
      | refine wp_alt ed_ty ?_ (fun er he => ?_)
      | refine wp_if2 (fun h => ?_) (fun h => ?_))
  exact kt2_oc (wp_eq2 (X_Exp_eq k o m p a b c d) (by
    repeat' first
      | exact oc_ret
      | exact oc_pan (by decide)
      | exact oc_pan (by assumption)
      | exact wp_done (w9 _ _ _ _ _)
      | exact wp_done (w8 _ _ _ _ _)
      | exact wp_done (w7 _ _ _ _ _)
      | exact wp_done (w6 _ _ _ _ _)
      | exact wp_done (w5 _ _ _ _ _)
      | exact wp_done (w4)
      | exact wp_done (w3)
      | exact wp_done (w2)
      | exact wp_done (w1)
      | refine wp_need ?_
      | refine wp_out ?_
      | refine wp_stage ?_
      | refine wp_alt (c_ask _) ?_ (fun er he => ?_)
      | refine wp_alt (c_count _ _ _) ?_ (fun er he => ?_)
      | refine wp_parts (fun i0 j0 k0 => ?_)
      | refine wp_alt (c_lowPath hp) ?_ (fun er he => ?_)
      | refine wp_alt (c_highPath hp) ?_ (fun er he => ?_)
      | refine wp_callB2 (c_basic hp) (fun b => ?_)
      | refine wp_alt (c_eachlow hp lp) ?_ (fun er he => ?_)
      | refine wp_alt (c_eachhigh hp lp) ?_ (fun er he => ?_)
      | refine wp_alt ea_pat ?_ (fun er he => ?_)
      | refine wp_alt eb_exp ?_ (fun er he => ?_)
      | refine wp_alt ec_dec ?_ (fun er he => ?_)
      | refine wp_alt ec_exp_1 ?_ (fun er he => ?_)
      | refine wp_alt ed_ty ?_ (fun er he => ?_)
      | refine wp_if2 (fun h => ?_) (fun h => ?_)))
theorem a_Con {n : ByteArray} {a : List (List AV)} (hn : n.size < SMALL) (ea_ty : ∃ er, evp f_tree_each_api_Ty [.slice 4 a .no, .func (.func f_tree_ty) [] []] .none [] = some ⟨oc er, .none, []⟩) : ∃ er, evp f_tree_con [.agg [vS n, .slice 4 a .no]] .none [] = some ⟨oc er, .none, []⟩ := by
  exact kt2_oc (wp_eq2 (X_Con_eq n a) (by
    repeat' first
      | exact oc_ret
      | exact oc_pan (by decide)
      | exact oc_pan (by assumption)
      | refine wp_need ?_
      | refine wp_out ?_
      | refine wp_stage ?_
      | refine wp_alt (c_ask _) ?_ (fun er he => ?_)
      | refine wp_alt (c_count _ _ _) ?_ (fun er he => ?_)
      | refine wp_parts (fun i0 j0 k0 => ?_)
      | refine wp_alt (c_lowName hn) ?_ (fun er he => ?_)
      | refine wp_alt (c_highName hn) ?_ (fun er he => ?_)
      | refine wp_callB2 (c_Tyvar hn) (fun b => ?_)
      | refine wp_alt ea_ty ?_ (fun er he => ?_)
      | refine wp_if2 (fun h => ?_) (fun h => ?_)))
theorem a_Dec {k : Int} {o : Int} {n : ByteArray} {p : List (List AV)} {a : List (List AV)} {b : List (List AV)} {c : List (List AV)} {d : List (List AV)} {e : List (List AV)} (hn : n.size < SMALL) (hp : Strs p) (lp : p.length < SMALL) (ea_ty : ∃ er, evp f_tree_each_api_Ty [.slice 4 a .no, .func (.func f_tree_ty) [] []] .none [] = some ⟨oc er, .none, []⟩) (eb_exp : ∃ er, evp f_tree_each_api_Exp [.slice 8 b .no, .func (.func f_tree_exp) [] []] .none [] = some ⟨oc er, .none, []⟩) (ec_con : ∃ er, evp f_tree_each_api_Con [.slice 2 c .no, .func (.func f_tree_con) [] []] .none [] = some ⟨oc er, .none, []⟩) (ed_mod : ∃ er, evp f_tree_each_api_Mod [.slice 5 d .no, .func (.func f_tree_mod) [] []] .none [] = some ⟨oc er, .none, []⟩) (ee_sig : ∃ er, evp f_tree_each_api_Sig [.slice 5 e .no, .func (.func f_tree_sig) [] []] .none [] = some ⟨oc er, .none, []⟩) : ∃ er, evp f_tree_dec [.agg [vI k, vI o, vS n, .slice 1 p .no, .slice 4 a .no, .slice 8 b .no, .slice 2 c .no, .slice 5 d .no, .slice 5 e .no]] .none [] = some ⟨oc er, .none, []⟩ := by
  have w4 : ∀ (q2x0 : Bool) (q2x1 : Int) (q2x2 : Int) (q2x3 : Int) (q2x4 : Int) (q2x5 : Int) (q2x6 : Int) (q2x7 : Int) (q2x8 : Int) (q2x9 : Int) (q2x10 : Int) (q2x11 : Int) (q2x12 : Int), ((X_Decs2 k o n p a b c d e q2x0 q2x1 q2x2 q2x3 q2x4 q2x5 q2x6 q2x7 q2x8 q2x9 q2x10 q2x11 q2x12).T.T.T.T.T.T.T.T.T.T.T.T.F.K ⟨tm2 119 [(1, (.ref [(vI (k)), (vI (o)), (vS (n)), (.slice 1 (p) .no), (.slice 4 (a) .no), (.slice 8 (b) .no), (.slice 2 (c) .no), (.slice 5 (d) .no), (.slice 5 (e) .no)])), (9, (.func (.func f_tree_highName) [] []))], lm2 119 [], ⟨[], [], .none, 0⟩⟩).wp Pg cfg0 evp [] (fun r => ∃ er, r = ⟨oc er, .none, []⟩) := fun q2x0 q2x1 q2x2 q2x3 q2x4 q2x5 q2x6 q2x7 q2x8 q2x9 q2x10 q2x11 q2x12 => wp_eq2 (X_Decs4_eq k o n p a b c d e q2x0 q2x1 q2x2 q2x3 q2x4 q2x5 q2x6 q2x7 q2x8 q2x9 q2x10 q2x11 q2x12) (by
    repeat' first
      | exact oc_ret
      | exact oc_pan (by decide)
      | exact oc_pan (by assumption)
      | refine wp_need ?_
      | refine wp_out ?_
      | refine wp_stage ?_
      | refine wp_alt (c_ask _) ?_ (fun er he => ?_)
      | refine wp_alt (c_count _ _ _) ?_ (fun er he => ?_)
      | refine wp_parts (fun i0 j0 k0 => ?_)
      | refine wp_alt (c_lowName hn) ?_ (fun er he => ?_)
      | refine wp_alt (c_highName hn) ?_ (fun er he => ?_)
      | refine wp_callB2 (c_Tyvar hn) (fun b => ?_)
      | refine wp_alt (c_lowPath hp) ?_ (fun er he => ?_)
      | refine wp_alt (c_highPath hp) ?_ (fun er he => ?_)
      | refine wp_callB2 (c_basic hp) (fun b => ?_)
      | refine wp_alt (c_eachlow hp lp) ?_ (fun er he => ?_)
      | refine wp_alt (c_eachhigh hp lp) ?_ (fun er he => ?_)
      | refine wp_alt ea_ty ?_ (fun er he => ?_)
      | refine wp_alt eb_exp ?_ (fun er he => ?_)
      | refine wp_alt ec_con ?_ (fun er he => ?_)
      | refine wp_alt ed_mod ?_ (fun er he => ?_)
      | refine wp_alt ee_sig ?_ (fun er he => ?_)
      | refine wp_if2 (fun h => ?_) (fun h => ?_))
  have w3 : ∀ (q2x0 : Bool) (q2x1 : Int) (q2x2 : Int) (q2x3 : Int) (q2x4 : Int) (q2x5 : Int) (q2x6 : Int) (q2x7 : Int) (q2x8 : Int) (q2x9 : Int) (q2x10 : Int) (q2x11 : Int) (q2x12 : Int), ((X_Decs2 k o n p a b c d e q2x0 q2x1 q2x2 q2x3 q2x4 q2x5 q2x6 q2x7 q2x8 q2x9 q2x10 q2x11 q2x12).T.T.T.T.T.T.T.T.T.T.T.T.T.K ⟨tm2 119 [(1, (.ref [(vI (k)), (vI (o)), (vS (n)), (.slice 1 (p) .no), (.slice 4 (a) .no), (.slice 8 (b) .no), (.slice 2 (c) .no), (.slice 5 (d) .no), (.slice 5 (e) .no)])), (9, (.func (.func f_tree_lowName) [] []))], lm2 119 [], ⟨[], [], .none, 0⟩⟩).wp Pg cfg0 evp [] (fun r => ∃ er, r = ⟨oc er, .none, []⟩) := fun q2x0 q2x1 q2x2 q2x3 q2x4 q2x5 q2x6 q2x7 q2x8 q2x9 q2x10 q2x11 q2x12 => wp_eq2 (X_Decs3_eq k o n p a b c d e q2x0 q2x1 q2x2 q2x3 q2x4 q2x5 q2x6 q2x7 q2x8 q2x9 q2x10 q2x11 q2x12) (by
    repeat' first
      | exact oc_ret
      | exact oc_pan (by decide)
      | exact oc_pan (by assumption)
      | exact wp_done (w4 _ _ _ _ _ _ _ _ _ _ _ _ _)
      | refine wp_need ?_
      | refine wp_out ?_
      | refine wp_stage ?_
      | refine wp_alt (c_ask _) ?_ (fun er he => ?_)
      | refine wp_alt (c_count _ _ _) ?_ (fun er he => ?_)
      | refine wp_parts (fun i0 j0 k0 => ?_)
      | refine wp_alt (c_lowName hn) ?_ (fun er he => ?_)
      | refine wp_alt (c_highName hn) ?_ (fun er he => ?_)
      | refine wp_callB2 (c_Tyvar hn) (fun b => ?_)
      | refine wp_alt (c_lowPath hp) ?_ (fun er he => ?_)
      | refine wp_alt (c_highPath hp) ?_ (fun er he => ?_)
      | refine wp_callB2 (c_basic hp) (fun b => ?_)
      | refine wp_alt (c_eachlow hp lp) ?_ (fun er he => ?_)
      | refine wp_alt (c_eachhigh hp lp) ?_ (fun er he => ?_)
      | refine wp_alt ea_ty ?_ (fun er he => ?_)
      | refine wp_alt eb_exp ?_ (fun er he => ?_)
      | refine wp_alt ec_con ?_ (fun er he => ?_)
      | refine wp_alt ed_mod ?_ (fun er he => ?_)
      | refine wp_alt ee_sig ?_ (fun er he => ?_)
      | refine wp_if2 (fun h => ?_) (fun h => ?_))
  have w2 : ∀ (q2x0 : Bool) (q2x1 : Int) (q2x2 : Int) (q2x3 : Int) (q2x4 : Int) (q2x5 : Int) (q2x6 : Int) (q2x7 : Int) (q2x8 : Int) (q2x9 : Int) (q2x10 : Int) (q2x11 : Int) (q2x12 : Int), ((X_Decs1 k o n p a b c d e).K ⟨tm2 119 [(1, (.ref [(vI (k)), (vI (o)), (vS (n)), (.slice 1 (p) .no), (.slice 4 (a) .no), (.slice 8 (b) .no), (.slice 2 (c) .no), (.slice 5 (d) .no), (.slice 5 (e) .no)])), (2, (.lp 2 0 0)), (3, (.lp 3 0 0)), (4, (.lp 4 0 0)), (5, (.lp 5 0 0)), (6, (.lp 6 0 0)), (7, (.lp 7 0 0)), (8, (vB (q2x0)))], lm2 119 [(2, (0, [(vI (q2x1)), (vI (q2x2))])), (3, (0, [(vI (q2x3)), (vI (q2x4))])), (4, (0, [(vI (q2x5)), (vI (q2x6))])), (5, (0, [(vI (q2x7)), (vI (q2x8))])), (6, (0, [(vI (q2x9)), (vI (q2x10))])), (7, (0, [(vI (q2x11)), (vI (q2x12))]))], ⟨[], [], .none, 0⟩⟩).wp Pg cfg0 evp [] (fun r => ∃ er, r = ⟨oc er, .none, []⟩) := fun q2x0 q2x1 q2x2 q2x3 q2x4 q2x5 q2x6 q2x7 q2x8 q2x9 q2x10 q2x11 q2x12 => wp_eq2 (X_Decs2_eq k o n p a b c d e q2x0 q2x1 q2x2 q2x3 q2x4 q2x5 q2x6 q2x7 q2x8 q2x9 q2x10 q2x11 q2x12) (by
    repeat' first
      | exact oc_ret
      | exact oc_pan (by decide)
      | exact oc_pan (by assumption)
      | exact wp_done (w4 _ _ _ _ _ _ _ _ _ _ _ _ _)
      | exact wp_done (w3 _ _ _ _ _ _ _ _ _ _ _ _ _)
      | refine wp_need ?_
      | refine wp_out ?_
      | refine wp_stage ?_
      | refine wp_alt (c_ask _) ?_ (fun er he => ?_)
      | refine wp_alt (c_count _ _ _) ?_ (fun er he => ?_)
      | refine wp_parts (fun i0 j0 k0 => ?_)
      | refine wp_alt (c_lowName hn) ?_ (fun er he => ?_)
      | refine wp_alt (c_highName hn) ?_ (fun er he => ?_)
      | refine wp_callB2 (c_Tyvar hn) (fun b => ?_)
      | refine wp_alt (c_lowPath hp) ?_ (fun er he => ?_)
      | refine wp_alt (c_highPath hp) ?_ (fun er he => ?_)
      | refine wp_callB2 (c_basic hp) (fun b => ?_)
      | refine wp_alt (c_eachlow hp lp) ?_ (fun er he => ?_)
      | refine wp_alt (c_eachhigh hp lp) ?_ (fun er he => ?_)
      | refine wp_alt ea_ty ?_ (fun er he => ?_)
      | refine wp_alt eb_exp ?_ (fun er he => ?_)
      | refine wp_alt ec_con ?_ (fun er he => ?_)
      | refine wp_alt ed_mod ?_ (fun er he => ?_)
      | refine wp_alt ee_sig ?_ (fun er he => ?_)
      | refine wp_if2 (fun h => ?_) (fun h => ?_))
  have w1 : ((X_Dec k o n p a b c d e).K ⟨tm2 119 [(1, (.ref [(vI (k)), (vI (o)), (vS (n)), (.slice 1 (p) .no), (.slice 4 (a) .no), (.slice 8 (b) .no), (.slice 2 (c) .no), (.slice 5 (d) .no), (.slice 5 (e) .no)]))], lm2 119 [], ⟨[], [], .none, 0⟩⟩).wp Pg cfg0 evp [] (fun r => ∃ er, r = ⟨oc er, .none, []⟩) := wp_eq2 (X_Decs1_eq k o n p a b c d e) (by
    repeat' first
      | exact oc_ret
      | exact oc_pan (by decide)
      | exact oc_pan (by assumption)
      | exact wp_done (w4 _ _ _ _ _ _ _ _ _ _ _ _ _)
      | exact wp_done (w3 _ _ _ _ _ _ _ _ _ _ _ _ _)
      | exact wp_done (w2 _ _ _ _ _ _ _ _ _ _ _ _ _)
      | refine wp_need ?_
      | refine wp_out ?_
      | refine wp_stage ?_
      | refine wp_alt (c_ask _) ?_ (fun er he => ?_)
      | refine wp_alt (c_count _ _ _) ?_ (fun er he => ?_)
      | refine wp_parts (fun i0 j0 k0 => ?_)
      | refine wp_alt (c_lowName hn) ?_ (fun er he => ?_)
      | refine wp_alt (c_highName hn) ?_ (fun er he => ?_)
      | refine wp_callB2 (c_Tyvar hn) (fun b => ?_)
      | refine wp_alt (c_lowPath hp) ?_ (fun er he => ?_)
      | refine wp_alt (c_highPath hp) ?_ (fun er he => ?_)
      | refine wp_callB2 (c_basic hp) (fun b => ?_)
      | refine wp_alt (c_eachlow hp lp) ?_ (fun er he => ?_)
      | refine wp_alt (c_eachhigh hp lp) ?_ (fun er he => ?_)
      | refine wp_alt ea_ty ?_ (fun er he => ?_)
      | refine wp_alt eb_exp ?_ (fun er he => ?_)
      | refine wp_alt ec_con ?_ (fun er he => ?_)
      | refine wp_alt ed_mod ?_ (fun er he => ?_)
      | refine wp_alt ee_sig ?_ (fun er he => ?_)
      | refine wp_if2 (fun h => ?_) (fun h => ?_))
  exact kt2_oc (wp_eq2 (X_Dec_eq k o n p a b c d e) (by
    repeat' first
      | exact oc_ret
      | exact oc_pan (by decide)
      | exact oc_pan (by assumption)
      | exact wp_done (w4 _ _ _ _ _ _ _ _ _ _ _ _ _)
      | exact wp_done (w3 _ _ _ _ _ _ _ _ _ _ _ _ _)
      | exact wp_done (w2 _ _ _ _ _ _ _ _ _ _ _ _ _)
      | exact wp_done (w1)
      | refine wp_need ?_
      | refine wp_out ?_
      | refine wp_stage ?_
      | refine wp_alt (c_ask _) ?_ (fun er he => ?_)
      | refine wp_alt (c_count _ _ _) ?_ (fun er he => ?_)
      | refine wp_parts (fun i0 j0 k0 => ?_)
      | refine wp_alt (c_lowName hn) ?_ (fun er he => ?_)
      | refine wp_alt (c_highName hn) ?_ (fun er he => ?_)
      | refine wp_callB2 (c_Tyvar hn) (fun b => ?_)
      | refine wp_alt (c_lowPath hp) ?_ (fun er he => ?_)
      | refine wp_alt (c_highPath hp) ?_ (fun er he => ?_)
      | refine wp_callB2 (c_basic hp) (fun b => ?_)
      | refine wp_alt (c_eachlow hp lp) ?_ (fun er he => ?_)
      | refine wp_alt (c_eachhigh hp lp) ?_ (fun er he => ?_)
      | refine wp_alt ea_ty ?_ (fun er he => ?_)
      | refine wp_alt eb_exp ?_ (fun er he => ?_)
      | refine wp_alt ec_con ?_ (fun er he => ?_)
      | refine wp_alt ed_mod ?_ (fun er he => ?_)
      | refine wp_alt ee_sig ?_ (fun er he => ?_)
      | refine wp_if2 (fun h => ?_) (fun h => ?_)))
theorem a_Mod {k : Int} {p : List (List AV)} {a : List (List AV)} {b : List (List AV)} {c : List (List AV)} (hp : Strs p) (lp : p.length < SMALL) (ea_dec : ∃ er, evp f_tree_each_api_Dec [.slice 9 a .no, .func (.func f_tree_dec) [] []] .none [] = some ⟨oc er, .none, []⟩) (ea_exp_1 : ∃ er, evp f_tree_each_api_Dec [.slice 9 a .no, .func (.func f_tree_exp_1) [] []] .none [] = some ⟨oc er, .none, []⟩) (eb_mod : ∃ er, evp f_tree_each_api_Mod [.slice 5 b .no, .func (.func f_tree_mod) [] []] .none [] = some ⟨oc er, .none, []⟩) (ec_sig : ∃ er, evp f_tree_each_api_Sig [.slice 5 c .no, .func (.func f_tree_sig) [] []] .none [] = some ⟨oc er, .none, []⟩) : ∃ er, evp f_tree_mod [.agg [vI k, .slice 1 p .no, .slice 9 a .no, .slice 5 b .no, .slice 5 c .no]] .none [] = some ⟨oc er, .none, []⟩ := by
  have w5 : ∀ (q2x0 : Bool) (q3x0 : Int) (q3x1 : Int), ((X_Mods4 k p a b c q2x0 q3x0 q3x1).K ⟨tm2 81 [(1, (.ref [(vI (k)), (.slice 1 (p) .no), (.slice 9 (a) .no), (.slice 5 (b) .no), (.slice 5 (c) .no)]))], lm2 81 [], ⟨[], [], .none, 0⟩⟩).wp Pg cfg0 evp [] (fun r => ∃ er, r = ⟨oc er, .none, []⟩) := fun q2x0 q3x0 q3x1 => wp_eq2 (X_Mods5_eq k p a b c q2x0 q3x0 q3x1) (by
    repeat' first
      | exact oc_ret
      | exact oc_pan (by decide)
      | exact oc_pan (by assumption)
      | refine wp_need ?_
      | refine wp_out ?_
      | refine wp_stage ?_
      | refine wp_alt (c_ask _) ?_ (fun er he => ?_)
      | refine wp_alt (c_count _ _ _) ?_ (fun er he => ?_)
      | refine wp_parts (fun i0 j0 k0 => ?_)
      | refine wp_alt (c_lowPath hp) ?_ (fun er he => ?_)
      | refine wp_alt (c_highPath hp) ?_ (fun er he => ?_)
      | refine wp_callB2 (c_basic hp) (fun b => ?_)
      | refine wp_alt (c_eachlow hp lp) ?_ (fun er he => ?_)
      | refine wp_alt (c_eachhigh hp lp) ?_ (fun er he => ?_)
      | refine wp_alt ea_dec ?_ (fun er he => ?_)
      | refine wp_alt ea_exp_1 ?_ (fun er he => ?_)
      | refine wp_alt eb_mod ?_ (fun er he => ?_)
      | refine wp_alt ec_sig ?_ (fun er he => ?_)
      | refine wp_if2 (fun h => ?_) (fun h => ?_))
  have w4 : ∀ (q2x0 : Bool) (q3x0 : Int) (q3x1 : Int), ((X_Mods3 k p a b c q2x0 q3x0 q3x1).K ⟨tm2 81 [(1, (.ref [(vI (k)), (.slice 1 (p) .no), (.slice 9 (a) .no), (.slice 5 (b) .no), (.slice 5 (c) .no)])), (2, (vB (q2x0)))], lm2 81 [], ⟨[], [], .none, 0⟩⟩).wp Pg cfg0 evp [] (fun r => ∃ er, r = ⟨oc er, .none, []⟩) := fun q2x0 q3x0 q3x1 => wp_eq2 (X_Mods4_eq k p a b c q2x0 q3x0 q3x1) (by
    repeat' first
      | exact oc_ret
      | exact oc_pan (by decide)
      | exact oc_pan (by assumption)
      | exact wp_done (w5 _ _ _)
      | refine wp_need ?_
      | refine wp_out ?_
      | refine wp_stage ?_
      | refine wp_alt (c_ask _) ?_ (fun er he => ?_)
      | refine wp_alt (c_count _ _ _) ?_ (fun er he => ?_)
      | refine wp_parts (fun i0 j0 k0 => ?_)
      | refine wp_alt (c_lowPath hp) ?_ (fun er he => ?_)
      | refine wp_alt (c_highPath hp) ?_ (fun er he => ?_)
      | refine wp_callB2 (c_basic hp) (fun b => ?_)
      | refine wp_alt (c_eachlow hp lp) ?_ (fun er he => ?_)
      | refine wp_alt (c_eachhigh hp lp) ?_ (fun er he => ?_)
      | refine wp_alt ea_dec ?_ (fun er he => ?_)
      | refine wp_alt ea_exp_1 ?_ (fun er he => ?_)
      | refine wp_alt eb_mod ?_ (fun er he => ?_)
      | refine wp_alt ec_sig ?_ (fun er he => ?_)
      | refine wp_if2 (fun h => ?_) (fun h => ?_))
  have w3 : ∀ (q2x0 : Bool) (q3x0 : Int) (q3x1 : Int), ((X_Mods2 k p a b c q2x0).K ⟨tm2 81 [(1, (.ref [(vI (k)), (.slice 1 (p) .no), (.slice 9 (a) .no), (.slice 5 (b) .no), (.slice 5 (c) .no)])), (2, (vB (q2x0))), (3, (vI (q3x0))), (4, (vI (q3x1)))], lm2 81 [], ⟨[], [], .none, 0⟩⟩).wp Pg cfg0 evp [] (fun r => ∃ er, r = ⟨oc er, .none, []⟩) := fun q2x0 q3x0 q3x1 => wp_eq2 (X_Mods3_eq k p a b c q2x0 q3x0 q3x1) (by
    repeat' first
      | exact oc_ret
      | exact oc_pan (by decide)
      | exact oc_pan (by assumption)
      | exact wp_done (w5 _ _ _)
      | exact wp_done (w4 _ _ _)
      | refine wp_need ?_
      | refine wp_out ?_
      | refine wp_stage ?_
      | refine wp_alt (c_ask _) ?_ (fun er he => ?_)
      | refine wp_alt (c_count _ _ _) ?_ (fun er he => ?_)
      | refine wp_parts (fun i0 j0 k0 => ?_)
      | refine wp_alt (c_lowPath hp) ?_ (fun er he => ?_)
      | refine wp_alt (c_highPath hp) ?_ (fun er he => ?_)
      | refine wp_callB2 (c_basic hp) (fun b => ?_)
      | refine wp_alt (c_eachlow hp lp) ?_ (fun er he => ?_)
      | refine wp_alt (c_eachhigh hp lp) ?_ (fun er he => ?_)
      | refine wp_alt ea_dec ?_ (fun er he => ?_)
      | refine wp_alt ea_exp_1 ?_ (fun er he => ?_)
      | refine wp_alt eb_mod ?_ (fun er he => ?_)
      | refine wp_alt ec_sig ?_ (fun er he => ?_)
      | refine wp_if2 (fun h => ?_) (fun h => ?_))
  have w2 : ∀ (q2x0 : Bool), ((X_Mods1 k p a b c).K ⟨tm2 81 [(1, (.ref [(vI (k)), (.slice 1 (p) .no), (.slice 9 (a) .no), (.slice 5 (b) .no), (.slice 5 (c) .no)])), (2, (vB (q2x0)))], lm2 81 [], ⟨[], [], .none, 0⟩⟩).wp Pg cfg0 evp [] (fun r => ∃ er, r = ⟨oc er, .none, []⟩) := fun q2x0 => wp_eq2 (X_Mods2_eq k p a b c q2x0) (by
    repeat' first
      | exact oc_ret
      | exact oc_pan (by decide)
      | exact oc_pan (by assumption)
      | exact wp_done (w5 _ _ _)
      | exact wp_done (w4 _ _ _)
      | exact wp_done (w3 _ _ _)
      | refine wp_need ?_
      | refine wp_out ?_
      | refine wp_stage ?_
      | refine wp_alt (c_ask _) ?_ (fun er he => ?_)
      | refine wp_alt (c_count _ _ _) ?_ (fun er he => ?_)
      | refine wp_parts (fun i0 j0 k0 => ?_)
      | refine wp_alt (c_lowPath hp) ?_ (fun er he => ?_)
      | refine wp_alt (c_highPath hp) ?_ (fun er he => ?_)
      | refine wp_callB2 (c_basic hp) (fun b => ?_)
      | refine wp_alt (c_eachlow hp lp) ?_ (fun er he => ?_)
      | refine wp_alt (c_eachhigh hp lp) ?_ (fun er he => ?_)
      | refine wp_alt ea_dec ?_ (fun er he => ?_)
      | refine wp_alt ea_exp_1 ?_ (fun er he => ?_)
      | refine wp_alt eb_mod ?_ (fun er he => ?_)
      | refine wp_alt ec_sig ?_ (fun er he => ?_)
      | refine wp_if2 (fun h => ?_) (fun h => ?_))
  have w1 : ((X_Mod k p a b c).K ⟨tm2 81 [(1, (.ref [(vI (k)), (.slice 1 (p) .no), (.slice 9 (a) .no), (.slice 5 (b) .no), (.slice 5 (c) .no)]))], lm2 81 [], ⟨[], [], .none, 0⟩⟩).wp Pg cfg0 evp [] (fun r => ∃ er, r = ⟨oc er, .none, []⟩) := wp_eq2 (X_Mods1_eq k p a b c) (by
    repeat' first
      | exact oc_ret
      | exact oc_pan (by decide)
      | exact oc_pan (by assumption)
      | exact wp_done (w5 _ _ _)
      | exact wp_done (w4 _ _ _)
      | exact wp_done (w3 _ _ _)
      | exact wp_done (w2 _)
      | refine wp_need ?_
      | refine wp_out ?_
      | refine wp_stage ?_
      | refine wp_alt (c_ask _) ?_ (fun er he => ?_)
      | refine wp_alt (c_count _ _ _) ?_ (fun er he => ?_)
      | refine wp_parts (fun i0 j0 k0 => ?_)
      | refine wp_alt (c_lowPath hp) ?_ (fun er he => ?_)
      | refine wp_alt (c_highPath hp) ?_ (fun er he => ?_)
      | refine wp_callB2 (c_basic hp) (fun b => ?_)
      | refine wp_alt (c_eachlow hp lp) ?_ (fun er he => ?_)
      | refine wp_alt (c_eachhigh hp lp) ?_ (fun er he => ?_)
      | refine wp_alt ea_dec ?_ (fun er he => ?_)
      | refine wp_alt ea_exp_1 ?_ (fun er he => ?_)
      | refine wp_alt eb_mod ?_ (fun er he => ?_)
      | refine wp_alt ec_sig ?_ (fun er he => ?_)
      | refine wp_if2 (fun h => ?_) (fun h => ?_))
  exact kt2_oc (wp_eq2 (X_Mod_eq k p a b c) (by
    repeat' first
      | exact oc_ret
      | exact oc_pan (by decide)
      | exact oc_pan (by assumption)
      | exact wp_done (w5 _ _ _)
      | exact wp_done (w4 _ _ _)
      | exact wp_done (w3 _ _ _)
      | exact wp_done (w2 _)
      | exact wp_done (w1)
      | refine wp_need ?_
      | refine wp_out ?_
      | refine wp_stage ?_
      | refine wp_alt (c_ask _) ?_ (fun er he => ?_)
      | refine wp_alt (c_count _ _ _) ?_ (fun er he => ?_)
      | refine wp_parts (fun i0 j0 k0 => ?_)
      | refine wp_alt (c_lowPath hp) ?_ (fun er he => ?_)
      | refine wp_alt (c_highPath hp) ?_ (fun er he => ?_)
      | refine wp_callB2 (c_basic hp) (fun b => ?_)
      | refine wp_alt (c_eachlow hp lp) ?_ (fun er he => ?_)
      | refine wp_alt (c_eachhigh hp lp) ?_ (fun er he => ?_)
      | refine wp_alt ea_dec ?_ (fun er he => ?_)
      | refine wp_alt ea_exp_1 ?_ (fun er he => ?_)
      | refine wp_alt eb_mod ?_ (fun er he => ?_)
      | refine wp_alt ec_sig ?_ (fun er he => ?_)
      | refine wp_if2 (fun h => ?_) (fun h => ?_)))
theorem a_Sig {k : Int} {p : List (List AV)} {a : List (List AV)} {b : List (List AV)} {c : List (List AV)} (hp : Strs p) (lp : p.length < SMALL) (ea_spec : ∃ er, evp f_tree_each_api_Spec [.slice 6 a .no, .func (.func f_tree_spec) [] []] .none [] = some ⟨oc er, .none, []⟩) (eb_sig : ∃ er, evp f_tree_each_api_Sig [.slice 5 b .no, .func (.func f_tree_sig) [] []] .none [] = some ⟨oc er, .none, []⟩) (ec_ty : ∃ er, evp f_tree_each_api_Ty [.slice 4 c .no, .func (.func f_tree_ty) [] []] .none [] = some ⟨oc er, .none, []⟩) : ∃ er, evp f_tree_sig [.agg [vI k, .slice 1 p .no, .slice 6 a .no, .slice 5 b .no, .slice 4 c .no]] .none [] = some ⟨oc er, .none, []⟩ := by
  have w5 : ∀ (q2x0 : Int), ((X_Sigs4 k p a b c q2x0).K ⟨tm2 71 [(1, (.ref [(vI (k)), (.slice 1 (p) .no), (.slice 6 (a) .no), (.slice 5 (b) .no), (.slice 4 (c) .no)]))], lm2 71 [], ⟨[], [], .none, 0⟩⟩).wp Pg cfg0 evp [] (fun r => ∃ er, r = ⟨oc er, .none, []⟩) := fun q2x0 => wp_eq2 (X_Sigs5_eq k p a b c q2x0) (by
    repeat' first
      | exact oc_ret
      | exact oc_pan (by decide)
      | exact oc_pan (by assumption)
      | refine wp_need ?_
      | refine wp_out ?_
      | refine wp_stage ?_
      | refine wp_alt (c_ask _) ?_ (fun er he => ?_)
      | refine wp_alt (c_count _ _ _) ?_ (fun er he => ?_)
      | refine wp_parts (fun i0 j0 k0 => ?_)
      | refine wp_alt (c_lowPath hp) ?_ (fun er he => ?_)
      | refine wp_alt (c_highPath hp) ?_ (fun er he => ?_)
      | refine wp_callB2 (c_basic hp) (fun b => ?_)
      | refine wp_alt (c_eachlow hp lp) ?_ (fun er he => ?_)
      | refine wp_alt (c_eachhigh hp lp) ?_ (fun er he => ?_)
      | refine wp_alt ea_spec ?_ (fun er he => ?_)
      | refine wp_alt eb_sig ?_ (fun er he => ?_)
      | refine wp_alt ec_ty ?_ (fun er he => ?_)
      | refine wp_if2 (fun h => ?_) (fun h => ?_))
  have w4 : ∀ (q2x0 : Int), ((X_Sigs3 k p a b c q2x0).K ⟨tm2 71 [(1, (.ref [(vI (k)), (.slice 1 (p) .no), (.slice 6 (a) .no), (.slice 5 (b) .no), (.slice 4 (c) .no)]))], lm2 71 [], ⟨[], [], .none, 0⟩⟩).wp Pg cfg0 evp [] (fun r => ∃ er, r = ⟨oc er, .none, []⟩) := fun q2x0 => wp_eq2 (X_Sigs4_eq k p a b c q2x0) (by
    repeat' first
      | exact oc_ret
      | exact oc_pan (by decide)
      | exact oc_pan (by assumption)
      | exact wp_done (w5 _)
      | refine wp_need ?_
      | refine wp_out ?_
      | refine wp_stage ?_
      | refine wp_alt (c_ask _) ?_ (fun er he => ?_)
      | refine wp_alt (c_count _ _ _) ?_ (fun er he => ?_)
      | refine wp_parts (fun i0 j0 k0 => ?_)
      | refine wp_alt (c_lowPath hp) ?_ (fun er he => ?_)
      | refine wp_alt (c_highPath hp) ?_ (fun er he => ?_)
      | refine wp_callB2 (c_basic hp) (fun b => ?_)
      | refine wp_alt (c_eachlow hp lp) ?_ (fun er he => ?_)
      | refine wp_alt (c_eachhigh hp lp) ?_ (fun er he => ?_)
      | refine wp_alt ea_spec ?_ (fun er he => ?_)
      | refine wp_alt eb_sig ?_ (fun er he => ?_)
      | refine wp_alt ec_ty ?_ (fun er he => ?_)
      | refine wp_if2 (fun h => ?_) (fun h => ?_))
  have w3 : ∀ (q2x0 : Int), ((X_Sigs2 k p a b c q2x0).K ⟨tm2 71 [(1, (.ref [(vI (k)), (.slice 1 (p) .no), (.slice 6 (a) .no), (.slice 5 (b) .no), (.slice 4 (c) .no)]))], lm2 71 [], ⟨[], [], .none, 0⟩⟩).wp Pg cfg0 evp [] (fun r => ∃ er, r = ⟨oc er, .none, []⟩) := fun q2x0 => wp_eq2 (X_Sigs3_eq k p a b c q2x0) (by
    repeat' first
      | exact oc_ret
      | exact oc_pan (by decide)
      | exact oc_pan (by assumption)
      | exact wp_done (w5 _)
      | exact wp_done (w4 _)
      | refine wp_need ?_
      | refine wp_out ?_
      | refine wp_stage ?_
      | refine wp_alt (c_ask _) ?_ (fun er he => ?_)
      | refine wp_alt (c_count _ _ _) ?_ (fun er he => ?_)
      | refine wp_parts (fun i0 j0 k0 => ?_)
      | refine wp_alt (c_lowPath hp) ?_ (fun er he => ?_)
      | refine wp_alt (c_highPath hp) ?_ (fun er he => ?_)
      | refine wp_callB2 (c_basic hp) (fun b => ?_)
      | refine wp_alt (c_eachlow hp lp) ?_ (fun er he => ?_)
      | refine wp_alt (c_eachhigh hp lp) ?_ (fun er he => ?_)
      | refine wp_alt ea_spec ?_ (fun er he => ?_)
      | refine wp_alt eb_sig ?_ (fun er he => ?_)
      | refine wp_alt ec_ty ?_ (fun er he => ?_)
      | refine wp_if2 (fun h => ?_) (fun h => ?_))
  have w2 : ∀ (q2x0 : Int), ((X_Sigs1 k p a b c).K ⟨tm2 71 [(1, (.ref [(vI (k)), (.slice 1 (p) .no), (.slice 6 (a) .no), (.slice 5 (b) .no), (.slice 4 (c) .no)])), (2, (vI (q2x0)))], lm2 71 [], ⟨[], [], .none, 0⟩⟩).wp Pg cfg0 evp [] (fun r => ∃ er, r = ⟨oc er, .none, []⟩) := fun q2x0 => wp_eq2 (X_Sigs2_eq k p a b c q2x0) (by
    repeat' first
      | exact oc_ret
      | exact oc_pan (by decide)
      | exact oc_pan (by assumption)
      | exact wp_done (w5 _)
      | exact wp_done (w4 _)
      | exact wp_done (w3 _)
      | refine wp_need ?_
      | refine wp_out ?_
      | refine wp_stage ?_
      | refine wp_alt (c_ask _) ?_ (fun er he => ?_)
      | refine wp_alt (c_count _ _ _) ?_ (fun er he => ?_)
      | refine wp_parts (fun i0 j0 k0 => ?_)
      | refine wp_alt (c_lowPath hp) ?_ (fun er he => ?_)
      | refine wp_alt (c_highPath hp) ?_ (fun er he => ?_)
      | refine wp_callB2 (c_basic hp) (fun b => ?_)
      | refine wp_alt (c_eachlow hp lp) ?_ (fun er he => ?_)
      | refine wp_alt (c_eachhigh hp lp) ?_ (fun er he => ?_)
      | refine wp_alt ea_spec ?_ (fun er he => ?_)
      | refine wp_alt eb_sig ?_ (fun er he => ?_)
      | refine wp_alt ec_ty ?_ (fun er he => ?_)
      | refine wp_if2 (fun h => ?_) (fun h => ?_))
  have w1 : ((X_Sig k p a b c).K ⟨tm2 71 [(1, (.ref [(vI (k)), (.slice 1 (p) .no), (.slice 6 (a) .no), (.slice 5 (b) .no), (.slice 4 (c) .no)]))], lm2 71 [], ⟨[], [], .none, 0⟩⟩).wp Pg cfg0 evp [] (fun r => ∃ er, r = ⟨oc er, .none, []⟩) := wp_eq2 (X_Sigs1_eq k p a b c) (by
    repeat' first
      | exact oc_ret
      | exact oc_pan (by decide)
      | exact oc_pan (by assumption)
      | exact wp_done (w5 _)
      | exact wp_done (w4 _)
      | exact wp_done (w3 _)
      | exact wp_done (w2 _)
      | refine wp_need ?_
      | refine wp_out ?_
      | refine wp_stage ?_
      | refine wp_alt (c_ask _) ?_ (fun er he => ?_)
      | refine wp_alt (c_count _ _ _) ?_ (fun er he => ?_)
      | refine wp_parts (fun i0 j0 k0 => ?_)
      | refine wp_alt (c_lowPath hp) ?_ (fun er he => ?_)
      | refine wp_alt (c_highPath hp) ?_ (fun er he => ?_)
      | refine wp_callB2 (c_basic hp) (fun b => ?_)
      | refine wp_alt (c_eachlow hp lp) ?_ (fun er he => ?_)
      | refine wp_alt (c_eachhigh hp lp) ?_ (fun er he => ?_)
      | refine wp_alt ea_spec ?_ (fun er he => ?_)
      | refine wp_alt eb_sig ?_ (fun er he => ?_)
      | refine wp_alt ec_ty ?_ (fun er he => ?_)
      | refine wp_if2 (fun h => ?_) (fun h => ?_))
  exact kt2_oc (wp_eq2 (X_Sig_eq k p a b c) (by
    repeat' first
      | exact oc_ret
      | exact oc_pan (by decide)
      | exact oc_pan (by assumption)
      | exact wp_done (w5 _)
      | exact wp_done (w4 _)
      | exact wp_done (w3 _)
      | exact wp_done (w2 _)
      | exact wp_done (w1)
      | refine wp_need ?_
      | refine wp_out ?_
      | refine wp_stage ?_
      | refine wp_alt (c_ask _) ?_ (fun er he => ?_)
      | refine wp_alt (c_count _ _ _) ?_ (fun er he => ?_)
      | refine wp_parts (fun i0 j0 k0 => ?_)
      | refine wp_alt (c_lowPath hp) ?_ (fun er he => ?_)
      | refine wp_alt (c_highPath hp) ?_ (fun er he => ?_)
      | refine wp_callB2 (c_basic hp) (fun b => ?_)
      | refine wp_alt (c_eachlow hp lp) ?_ (fun er he => ?_)
      | refine wp_alt (c_eachhigh hp lp) ?_ (fun er he => ?_)
      | refine wp_alt ea_spec ?_ (fun er he => ?_)
      | refine wp_alt eb_sig ?_ (fun er he => ?_)
      | refine wp_alt ec_ty ?_ (fun er he => ?_)
      | refine wp_if2 (fun h => ?_) (fun h => ?_)))
theorem a_Spec {k : Int} {o : Int} {n : ByteArray} {a : List (List AV)} {b : List (List AV)} {c : List (List AV)} (hn : n.size < SMALL) (ea_ty : ∃ er, evp f_tree_each_api_Ty [.slice 4 a .no, .func (.func f_tree_ty) [] []] .none [] = some ⟨oc er, .none, []⟩) (eb_con : ∃ er, evp f_tree_each_api_Con [.slice 2 b .no, .func (.func f_tree_con) [] []] .none [] = some ⟨oc er, .none, []⟩) (ec_sig : ∃ er, evp f_tree_each_api_Sig [.slice 5 c .no, .func (.func f_tree_sig) [] []] .none [] = some ⟨oc er, .none, []⟩) : ∃ er, evp f_tree_spec [.agg [vI k, vI o, vS n, .slice 4 a .no, .slice 2 b .no, .slice 5 c .no]] .none [] = some ⟨oc er, .none, []⟩ := by
  have w3 : ((X_Specs2 k o n a b c).K ⟨tm2 107 [(1, (.ref [(vI (k)), (vI (o)), (vS (n)), (.slice 4 (a) .no), (.slice 2 (b) .no), (.slice 5 (c) .no)]))], lm2 107 [], ⟨[], [], .none, 0⟩⟩).wp Pg cfg0 evp [] (fun r => ∃ er, r = ⟨oc er, .none, []⟩) := wp_eq2 (X_Specs3_eq k o n a b c) (by
    repeat' first
      | exact oc_ret
      | exact oc_pan (by decide)
      | exact oc_pan (by assumption)
      | refine wp_need ?_
      | refine wp_out ?_
      | refine wp_stage ?_
      | refine wp_alt (c_ask _) ?_ (fun er he => ?_)
      | refine wp_alt (c_count _ _ _) ?_ (fun er he => ?_)
      | refine wp_parts (fun i0 j0 k0 => ?_)
      | refine wp_alt (c_lowName hn) ?_ (fun er he => ?_)
      | refine wp_alt (c_highName hn) ?_ (fun er he => ?_)
      | refine wp_callB2 (c_Tyvar hn) (fun b => ?_)
      | refine wp_alt ea_ty ?_ (fun er he => ?_)
      | refine wp_alt eb_con ?_ (fun er he => ?_)
      | refine wp_alt ec_sig ?_ (fun er he => ?_)
      | refine wp_if2 (fun h => ?_) (fun h => ?_))
  have w2 : ((X_Specs1 k o n a b c).K ⟨tm2 107 [(1, (.ref [(vI (k)), (vI (o)), (vS (n)), (.slice 4 (a) .no), (.slice 2 (b) .no), (.slice 5 (c) .no)]))], lm2 107 [], ⟨[], [], .none, 0⟩⟩).wp Pg cfg0 evp [] (fun r => ∃ er, r = ⟨oc er, .none, []⟩) := wp_eq2 (X_Specs2_eq k o n a b c) (by
    repeat' first
      | exact oc_ret
      | exact oc_pan (by decide)
      | exact oc_pan (by assumption)
      | exact wp_done (w3)
      | refine wp_need ?_
      | refine wp_out ?_
      | refine wp_stage ?_
      | refine wp_alt (c_ask _) ?_ (fun er he => ?_)
      | refine wp_alt (c_count _ _ _) ?_ (fun er he => ?_)
      | refine wp_parts (fun i0 j0 k0 => ?_)
      | refine wp_alt (c_lowName hn) ?_ (fun er he => ?_)
      | refine wp_alt (c_highName hn) ?_ (fun er he => ?_)
      | refine wp_callB2 (c_Tyvar hn) (fun b => ?_)
      | refine wp_alt ea_ty ?_ (fun er he => ?_)
      | refine wp_alt eb_con ?_ (fun er he => ?_)
      | refine wp_alt ec_sig ?_ (fun er he => ?_)
      | refine wp_if2 (fun h => ?_) (fun h => ?_))
  have w1 : ((X_Spec k o n a b c).K ⟨tm2 107 [(1, (.ref [(vI (k)), (vI (o)), (vS (n)), (.slice 4 (a) .no), (.slice 2 (b) .no), (.slice 5 (c) .no)]))], lm2 107 [], ⟨[], [], .none, 0⟩⟩).wp Pg cfg0 evp [] (fun r => ∃ er, r = ⟨oc er, .none, []⟩) := wp_eq2 (X_Specs1_eq k o n a b c) (by
    repeat' first
      | exact oc_ret
      | exact oc_pan (by decide)
      | exact oc_pan (by assumption)
      | exact wp_done (w3)
      | exact wp_done (w2)
      | refine wp_need ?_
      | refine wp_out ?_
      | refine wp_stage ?_
      | refine wp_alt (c_ask _) ?_ (fun er he => ?_)
      | refine wp_alt (c_count _ _ _) ?_ (fun er he => ?_)
      | refine wp_parts (fun i0 j0 k0 => ?_)
      | refine wp_alt (c_lowName hn) ?_ (fun er he => ?_)
      | refine wp_alt (c_highName hn) ?_ (fun er he => ?_)
      | refine wp_callB2 (c_Tyvar hn) (fun b => ?_)
      | refine wp_alt ea_ty ?_ (fun er he => ?_)
      | refine wp_alt eb_con ?_ (fun er he => ?_)
      | refine wp_alt ec_sig ?_ (fun er he => ?_)
      | refine wp_if2 (fun h => ?_) (fun h => ?_))
  exact kt2_oc (wp_eq2 (X_Spec_eq k o n a b c) (by
    repeat' first
      | exact oc_ret
      | exact oc_pan (by decide)
      | exact oc_pan (by assumption)
      | exact wp_done (w3)
      | exact wp_done (w2)
      | exact wp_done (w1)
      | refine wp_need ?_
      | refine wp_out ?_
      | refine wp_stage ?_
      | refine wp_alt (c_ask _) ?_ (fun er he => ?_)
      | refine wp_alt (c_count _ _ _) ?_ (fun er he => ?_)
      | refine wp_parts (fun i0 j0 k0 => ?_)
      | refine wp_alt (c_lowName hn) ?_ (fun er he => ?_)
      | refine wp_alt (c_highName hn) ?_ (fun er he => ?_)
      | refine wp_callB2 (c_Tyvar hn) (fun b => ?_)
      | refine wp_alt ea_ty ?_ (fun er he => ?_)
      | refine wp_alt eb_con ?_ (fun er he => ?_)
      | refine wp_alt ec_sig ?_ (fun er he => ?_)
      | refine wp_if2 (fun h => ?_) (fun h => ?_)))
theorem a_exp1 {k : Int} {o : Int} {n : ByteArray} {p : List (List AV)} {a : List (List AV)} {b : List (List AV)} {c : List (List AV)} {d : List (List AV)} {e : List (List AV)} (hn : n.size < SMALL) (hp : Strs p) (lp : p.length < SMALL) (ea_ty : ∃ er, evp f_tree_each_api_Ty [.slice 4 a .no, .func (.func f_tree_ty) [] []] .none [] = some ⟨oc er, .none, []⟩) (eb_exp : ∃ er, evp f_tree_each_api_Exp [.slice 8 b .no, .func (.func f_tree_exp) [] []] .none [] = some ⟨oc er, .none, []⟩) (ec_con : ∃ er, evp f_tree_each_api_Con [.slice 2 c .no, .func (.func f_tree_con) [] []] .none [] = some ⟨oc er, .none, []⟩) (ed_mod : ∃ er, evp f_tree_each_api_Mod [.slice 5 d .no, .func (.func f_tree_mod) [] []] .none [] = some ⟨oc er, .none, []⟩) (ee_sig : ∃ er, evp f_tree_each_api_Sig [.slice 5 e .no, .func (.func f_tree_sig) [] []] .none [] = some ⟨oc er, .none, []⟩) : ∃ er, evp f_tree_exp_1 [.agg [vI k, vI o, vS n, .slice 1 p .no, .slice 4 a .no, .slice 8 b .no, .slice 2 c .no, .slice 5 d .no, .slice 5 e .no]] .none [] = some ⟨oc er, .none, []⟩ := by
  exact kt2_oc (wp_eq2 (X_exp1_eq k o n p a b c d e) (by
    repeat' first
      | exact oc_ret
      | exact oc_pan (by decide)
      | exact oc_pan (by assumption)
      | refine wp_need ?_
      | refine wp_out ?_
      | refine wp_stage ?_
      | refine wp_alt (c_ask _) ?_ (fun er he => ?_)
      | refine wp_alt (c_count _ _ _) ?_ (fun er he => ?_)
      | refine wp_parts (fun i0 j0 k0 => ?_)
      | refine wp_alt (c_lowName hn) ?_ (fun er he => ?_)
      | refine wp_alt (c_highName hn) ?_ (fun er he => ?_)
      | refine wp_callB2 (c_Tyvar hn) (fun b => ?_)
      | refine wp_alt (c_lowPath hp) ?_ (fun er he => ?_)
      | refine wp_alt (c_highPath hp) ?_ (fun er he => ?_)
      | refine wp_callB2 (c_basic hp) (fun b => ?_)
      | refine wp_alt (c_eachlow hp lp) ?_ (fun er he => ?_)
      | refine wp_alt (c_eachhigh hp lp) ?_ (fun er he => ?_)
      | refine wp_alt ea_ty ?_ (fun er he => ?_)
      | refine wp_alt eb_exp ?_ (fun er he => ?_)
      | refine wp_alt ec_con ?_ (fun er he => ?_)
      | refine wp_alt ed_mod ?_ (fun er he => ?_)
      | refine wp_alt ee_sig ?_ (fun er he => ?_)
      | refine wp_if2 (fun h => ?_) (fun h => ?_)))
end Go.Proofs
