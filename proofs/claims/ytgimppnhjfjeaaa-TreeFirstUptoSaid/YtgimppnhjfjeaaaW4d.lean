/- the checks of plain data's nodes end well or with an error -/
import Derived.Test.YtgimppnhjfjeaaaW4c
import Derived.Test.YtgimppnhjfjeaaaW2
open Go Go.Eng
namespace Go.Proofs
set_option linter.unusedVariables false
set_option linter.unusedSimpArgs false
set_option maxRecDepth 100000
theorem mem_avss {l : List Row} {r : List AV} (h : r ∈ avss l) : ∃ x ∈ l, r = avs x := by
  rw [avss_map] at h
  obtain ⟨x, hx, rfl⟩ := List.mem_map.1 h
  exact ⟨x, hx, rfl⟩
theorem len_bulkss {l : List Row} (h : ∀ r ∈ l, r ≠ []) : l.length ≤ bulkss l := by
  induction l with
  | nil => simp
  | cons r l ih =>
    have h1 := ih fun x hx => h x (by simp [hx])
    have h2 := len_bulks r
    have h3 : 0 < r.length := List.length_pos_iff.2 (h r (by simp))
    simp only [List.length_cons, bulkss]; omega
theorem strs_ok {p : List Row} (h : ∀ x ∈ p, Has Pg y_string x) (hb : bulkss p < SMALL) : Strs (avss p) := by
  intro r hr
  obtain ⟨x, hx, rfl⟩ := mem_avss hr
  obtain ⟨s, rfl, _⟩ := inv_string (h x hx)
  have := bulkss_mem hx
  simp only [bulks, CT.bulk] at this
  exact ⟨s, rfl, by omega⟩
theorem strs_len {p : List Row} (h : ∀ x ∈ p, Has Pg y_string x) (hb : bulkss p < SMALL) : (avss p).length < SMALL := by
  have := len_bulkss fun r hr => (by obtain ⟨s, rfl, _⟩ := inv_string (h r hr); simp : r ≠ [])
  rw [avss_len]; omega
theorem cnts_mem {l : List Row} {r : Row} (h : r ∈ l) : oneR r + cntR r ≤ cnts l := by
  induction l with
  | nil => cases h
  | cons a l ih =>
    rw [cnts]
    rcases List.mem_cons.1 h with rfl | h
    · omega
    · have := ih h; omega
def CkOk (f t N : Nat) : Prop := ∀ r : Row, oneR r + cntR r ≤ N → Has Pg t r → bulks r < SMALL → ∃ er, evp f [.agg (avs r)] .none [] = some ⟨oc er, .none, []⟩
structure CkAll (N : Nat) : Prop where
  ty : CkOk f_tree_ty y_api_Ty N
  pat : CkOk f_tree_pat y_api_Pat N
  exp : CkOk f_tree_exp y_api_Exp N
  con : CkOk f_tree_con y_api_Con N
  dec : CkOk f_tree_dec y_api_Dec N
  exp_1 : CkOk f_tree_exp_1 y_api_Dec N
  mod : CkOk f_tree_mod y_api_Mod N
  sig : CkOk f_tree_sig y_api_Sig N
  spec : CkOk f_tree_spec y_api_Spec N
theorem l_ty {N : Nat} (ih : ∀ M, M < N → CkAll M) {l : List Row} (hc : cnts l < N) (ht : ∀ r ∈ l, Has Pg y_api_Ty r) (hb : bulkss l < SMALL) :
    ∃ er, evp f_tree_each_api_Ty [.slice 4 (avss l) .no, .func (.func f_tree_ty) [] []] .none [] = some ⟨oc er, .none, []⟩ := by
  have hl := len_bulkss fun r hr => ne_Ty (ht r hr)
  refine e_Ty_ty (by rw [avss_len]; omega) fun r hr => ?_
  obtain ⟨x, hx, rfl⟩ := mem_avss hr
  have h1 := cnts_mem hx
  have h2 := bulkss_mem hx
  have h3 := (ih (cnts l) hc).ty x (by omega) (ht x hx) (by omega)
  obtain ⟨xk, xn, xp, xa, rfl, _⟩ := inv_Ty (ht x hx)
  exact ⟨xk, xn, avss xp, avss xa, rfl, h3⟩
theorem l_pat {N : Nat} (ih : ∀ M, M < N → CkAll M) {l : List Row} (hc : cnts l < N) (ht : ∀ r ∈ l, Has Pg y_api_Pat r) (hb : bulkss l < SMALL) :
    ∃ er, evp f_tree_each_api_Pat [.slice 5 (avss l) .no, .func (.func f_tree_pat) [] []] .none [] = some ⟨oc er, .none, []⟩ := by
  have hl := len_bulkss fun r hr => ne_Pat (ht r hr)
  refine e_Pat_pat (by rw [avss_len]; omega) fun r hr => ?_
  obtain ⟨x, hx, rfl⟩ := mem_avss hr
  have h1 := cnts_mem hx
  have h2 := bulkss_mem hx
  have h3 := (ih (cnts l) hc).pat x (by omega) (ht x hx) (by omega)
  obtain ⟨xk, xn, xp, xm, xa, rfl, _⟩ := inv_Pat (ht x hx)
  exact ⟨xk, xn, avss xp, xm, avss xa, rfl, h3⟩
theorem l_exp {N : Nat} (ih : ∀ M, M < N → CkAll M) {l : List Row} (hc : cnts l < N) (ht : ∀ r ∈ l, Has Pg y_api_Exp r) (hb : bulkss l < SMALL) :
    ∃ er, evp f_tree_each_api_Exp [.slice 8 (avss l) .no, .func (.func f_tree_exp) [] []] .none [] = some ⟨oc er, .none, []⟩ := by
  have hl := len_bulkss fun r hr => ne_Exp (ht r hr)
  refine e_Exp_exp (by rw [avss_len]; omega) fun r hr => ?_
  obtain ⟨x, hx, rfl⟩ := mem_avss hr
  have h1 := cnts_mem hx
  have h2 := bulkss_mem hx
  have h3 := (ih (cnts l) hc).exp x (by omega) (ht x hx) (by omega)
  obtain ⟨xk, xo, xm, xp, xa, xb, xc, xd, rfl, _⟩ := inv_Exp (ht x hx)
  exact ⟨xk, xo, xm, avss xp, avss xa, avss xb, avss xc, avss xd, rfl, h3⟩
theorem l_con {N : Nat} (ih : ∀ M, M < N → CkAll M) {l : List Row} (hc : cnts l < N) (ht : ∀ r ∈ l, Has Pg y_api_Con r) (hb : bulkss l < SMALL) :
    ∃ er, evp f_tree_each_api_Con [.slice 2 (avss l) .no, .func (.func f_tree_con) [] []] .none [] = some ⟨oc er, .none, []⟩ := by
  have hl := len_bulkss fun r hr => ne_Con (ht r hr)
  refine e_Con_con (by rw [avss_len]; omega) fun r hr => ?_
  obtain ⟨x, hx, rfl⟩ := mem_avss hr
  have h1 := cnts_mem hx
  have h2 := bulkss_mem hx
  have h3 := (ih (cnts l) hc).con x (by omega) (ht x hx) (by omega)
  obtain ⟨xn, xa, rfl, _⟩ := inv_Con (ht x hx)
  exact ⟨xn, avss xa, rfl, h3⟩
theorem l_dec {N : Nat} (ih : ∀ M, M < N → CkAll M) {l : List Row} (hc : cnts l < N) (ht : ∀ r ∈ l, Has Pg y_api_Dec r) (hb : bulkss l < SMALL) :
    ∃ er, evp f_tree_each_api_Dec [.slice 9 (avss l) .no, .func (.func f_tree_dec) [] []] .none [] = some ⟨oc er, .none, []⟩ := by
  have hl := len_bulkss fun r hr => ne_Dec (ht r hr)
  refine e_Dec_dec (by rw [avss_len]; omega) fun r hr => ?_
  obtain ⟨x, hx, rfl⟩ := mem_avss hr
  have h1 := cnts_mem hx
  have h2 := bulkss_mem hx
  have h3 := (ih (cnts l) hc).dec x (by omega) (ht x hx) (by omega)
  obtain ⟨xk, xo, xn, xp, xa, xb, xc, xd, xe, rfl, _⟩ := inv_Dec (ht x hx)
  exact ⟨xk, xo, xn, avss xp, avss xa, avss xb, avss xc, avss xd, avss xe, rfl, h3⟩
theorem l_exp_1 {N : Nat} (ih : ∀ M, M < N → CkAll M) {l : List Row} (hc : cnts l < N) (ht : ∀ r ∈ l, Has Pg y_api_Dec r) (hb : bulkss l < SMALL) :
    ∃ er, evp f_tree_each_api_Dec [.slice 9 (avss l) .no, .func (.func f_tree_exp_1) [] []] .none [] = some ⟨oc er, .none, []⟩ := by
  have hl := len_bulkss fun r hr => ne_Dec (ht r hr)
  refine e_Dec_exp_1 (by rw [avss_len]; omega) fun r hr => ?_
  obtain ⟨x, hx, rfl⟩ := mem_avss hr
  have h1 := cnts_mem hx
  have h2 := bulkss_mem hx
  have h3 := (ih (cnts l) hc).exp_1 x (by omega) (ht x hx) (by omega)
  obtain ⟨xk, xo, xn, xp, xa, xb, xc, xd, xe, rfl, _⟩ := inv_Dec (ht x hx)
  exact ⟨xk, xo, xn, avss xp, avss xa, avss xb, avss xc, avss xd, avss xe, rfl, h3⟩
theorem l_mod {N : Nat} (ih : ∀ M, M < N → CkAll M) {l : List Row} (hc : cnts l < N) (ht : ∀ r ∈ l, Has Pg y_api_Mod r) (hb : bulkss l < SMALL) :
    ∃ er, evp f_tree_each_api_Mod [.slice 5 (avss l) .no, .func (.func f_tree_mod) [] []] .none [] = some ⟨oc er, .none, []⟩ := by
  have hl := len_bulkss fun r hr => ne_Mod (ht r hr)
  refine e_Mod_mod (by rw [avss_len]; omega) fun r hr => ?_
  obtain ⟨x, hx, rfl⟩ := mem_avss hr
  have h1 := cnts_mem hx
  have h2 := bulkss_mem hx
  have h3 := (ih (cnts l) hc).mod x (by omega) (ht x hx) (by omega)
  obtain ⟨xk, xp, xa, xb, xc, rfl, _⟩ := inv_Mod (ht x hx)
  exact ⟨xk, avss xp, avss xa, avss xb, avss xc, rfl, h3⟩
theorem l_sig {N : Nat} (ih : ∀ M, M < N → CkAll M) {l : List Row} (hc : cnts l < N) (ht : ∀ r ∈ l, Has Pg y_api_Sig r) (hb : bulkss l < SMALL) :
    ∃ er, evp f_tree_each_api_Sig [.slice 5 (avss l) .no, .func (.func f_tree_sig) [] []] .none [] = some ⟨oc er, .none, []⟩ := by
  have hl := len_bulkss fun r hr => ne_Sig (ht r hr)
  refine e_Sig_sig (by rw [avss_len]; omega) fun r hr => ?_
  obtain ⟨x, hx, rfl⟩ := mem_avss hr
  have h1 := cnts_mem hx
  have h2 := bulkss_mem hx
  have h3 := (ih (cnts l) hc).sig x (by omega) (ht x hx) (by omega)
  obtain ⟨xk, xp, xa, xb, xc, rfl, _⟩ := inv_Sig (ht x hx)
  exact ⟨xk, avss xp, avss xa, avss xb, avss xc, rfl, h3⟩
theorem l_spec {N : Nat} (ih : ∀ M, M < N → CkAll M) {l : List Row} (hc : cnts l < N) (ht : ∀ r ∈ l, Has Pg y_api_Spec r) (hb : bulkss l < SMALL) :
    ∃ er, evp f_tree_each_api_Spec [.slice 6 (avss l) .no, .func (.func f_tree_spec) [] []] .none [] = some ⟨oc er, .none, []⟩ := by
  have hl := len_bulkss fun r hr => ne_Spec (ht r hr)
  refine e_Spec_spec (by rw [avss_len]; omega) fun r hr => ?_
  obtain ⟨x, hx, rfl⟩ := mem_avss hr
  have h1 := cnts_mem hx
  have h2 := bulkss_mem hx
  have h3 := (ih (cnts l) hc).spec x (by omega) (ht x hx) (by omega)
  obtain ⟨xk, xo, xn, xa, xb, xc, rfl, _⟩ := inv_Spec (ht x hx)
  exact ⟨xk, xo, xn, avss xa, avss xb, avss xc, rfl, h3⟩
theorem k_ty {N : Nat} (ih : ∀ M, M < N → CkAll M) : CkOk f_tree_ty y_api_Ty N := by
  intro r hN ht hb
  obtain ⟨xk, xn, xp, xa, rfl, t_p, t_a⟩ := inv_Ty ht
  rw [cntR_Ty] at hN
  simp only [oneR] at hN
  simp only [bulks, CT.bulk] at hb
  exact a_Ty (by omega) (strs_ok t_p (by omega)) (strs_len t_p (by omega)) (l_ty ih (by omega) t_a (by omega))
theorem k_pat {N : Nat} (ih : ∀ M, M < N → CkAll M) : CkOk f_tree_pat y_api_Pat N := by
  intro r hN ht hb
  obtain ⟨xk, xn, xp, xm, xa, rfl, t_p, t_a⟩ := inv_Pat ht
  rw [cntR_Pat] at hN
  simp only [oneR] at hN
  simp only [bulks, CT.bulk] at hb
  exact a_Pat (by omega) (strs_ok t_p (by omega)) (strs_len t_p (by omega)) (l_pat ih (by omega) t_a (by omega))
theorem k_exp {N : Nat} (ih : ∀ M, M < N → CkAll M) : CkOk f_tree_exp y_api_Exp N := by
  intro r hN ht hb
  obtain ⟨xk, xo, xm, xp, xa, xb, xc, xd, rfl, t_p, t_a, t_b, t_c, t_d⟩ := inv_Exp ht
  rw [cntR_Exp] at hN
  simp only [oneR] at hN
  simp only [bulks, CT.bulk] at hb
  exact a_Exp (strs_ok t_p (by omega)) (strs_len t_p (by omega)) (l_pat ih (by omega) t_a (by omega)) (l_exp ih (by omega) t_b (by omega)) (l_dec ih (by omega) t_c (by omega)) (l_exp_1 ih (by omega) t_c (by omega)) (l_ty ih (by omega) t_d (by omega))
theorem k_con {N : Nat} (ih : ∀ M, M < N → CkAll M) : CkOk f_tree_con y_api_Con N := by
  intro r hN ht hb
  obtain ⟨xn, xa, rfl, t_a⟩ := inv_Con ht
  rw [cntR_Con] at hN
  simp only [oneR] at hN
  simp only [bulks, CT.bulk] at hb
  exact a_Con (by omega) (l_ty ih (by omega) t_a (by omega))
theorem k_dec {N : Nat} (ih : ∀ M, M < N → CkAll M) : CkOk f_tree_dec y_api_Dec N := by
  intro r hN ht hb
  obtain ⟨xk, xo, xn, xp, xa, xb, xc, xd, xe, rfl, t_p, t_a, t_b, t_c, t_d, t_e⟩ := inv_Dec ht
  rw [cntR_Dec] at hN
  simp only [oneR] at hN
  simp only [bulks, CT.bulk] at hb
  exact a_Dec (by omega) (strs_ok t_p (by omega)) (strs_len t_p (by omega)) (l_ty ih (by omega) t_a (by omega)) (l_exp ih (by omega) t_b (by omega)) (l_con ih (by omega) t_c (by omega)) (l_mod ih (by omega) t_d (by omega)) (l_sig ih (by omega) t_e (by omega))
theorem k_exp_1 {N : Nat} (ih : ∀ M, M < N → CkAll M) : CkOk f_tree_exp_1 y_api_Dec N := by
  intro r hN ht hb
  obtain ⟨xk, xo, xn, xp, xa, xb, xc, xd, xe, rfl, t_p, t_a, t_b, t_c, t_d, t_e⟩ := inv_Dec ht
  rw [cntR_Dec] at hN
  simp only [oneR] at hN
  simp only [bulks, CT.bulk] at hb
  exact a_exp1 (by omega) (strs_ok t_p (by omega)) (strs_len t_p (by omega)) (l_ty ih (by omega) t_a (by omega)) (l_exp ih (by omega) t_b (by omega)) (l_con ih (by omega) t_c (by omega)) (l_mod ih (by omega) t_d (by omega)) (l_sig ih (by omega) t_e (by omega))
theorem k_mod {N : Nat} (ih : ∀ M, M < N → CkAll M) : CkOk f_tree_mod y_api_Mod N := by
  intro r hN ht hb
  obtain ⟨xk, xp, xa, xb, xc, rfl, t_p, t_a, t_b, t_c⟩ := inv_Mod ht
  rw [cntR_Mod] at hN
  simp only [oneR] at hN
  simp only [bulks, CT.bulk] at hb
  exact a_Mod (strs_ok t_p (by omega)) (strs_len t_p (by omega)) (l_dec ih (by omega) t_a (by omega)) (l_exp_1 ih (by omega) t_a (by omega)) (l_mod ih (by omega) t_b (by omega)) (l_sig ih (by omega) t_c (by omega))
theorem k_sig {N : Nat} (ih : ∀ M, M < N → CkAll M) : CkOk f_tree_sig y_api_Sig N := by
  intro r hN ht hb
  obtain ⟨xk, xp, xa, xb, xc, rfl, t_p, t_a, t_b, t_c⟩ := inv_Sig ht
  rw [cntR_Sig] at hN
  simp only [oneR] at hN
  simp only [bulks, CT.bulk] at hb
  exact a_Sig (strs_ok t_p (by omega)) (strs_len t_p (by omega)) (l_spec ih (by omega) t_a (by omega)) (l_sig ih (by omega) t_b (by omega)) (l_ty ih (by omega) t_c (by omega))
theorem k_spec {N : Nat} (ih : ∀ M, M < N → CkAll M) : CkOk f_tree_spec y_api_Spec N := by
  intro r hN ht hb
  obtain ⟨xk, xo, xn, xa, xb, xc, rfl, t_a, t_b, t_c⟩ := inv_Spec ht
  rw [cntR_Spec] at hN
  simp only [oneR] at hN
  simp only [bulks, CT.bulk] at hb
  exact a_Spec (by omega) (l_ty ih (by omega) t_a (by omega)) (l_con ih (by omega) t_b (by omega)) (l_sig ih (by omega) t_c (by omega))
theorem ck_all : ∀ N, CkAll N := by
  intro N
  induction N using Nat.strongRecOn with
  | _ N ih => exact ⟨k_ty ih, k_pat ih, k_exp ih, k_con ih, k_dec ih, k_exp_1 ih, k_mod ih, k_sig ih, k_spec ih⟩
/-- a node's error -/
noncomputable def errOf (f : Nat) (r : Row) : Int := @dite _ (∃ er, evp f [.agg (avs r)] .none [] = some ⟨oc er, .none, []⟩) (Classical.propDecidable _) (fun h => Classical.choose h) (fun _ => 0)
theorem errOf_ok {f : Nat} {r : Row} (h : ∃ er, evp f [.agg (avs r)] .none [] = some ⟨oc er, .none, []⟩) : evp f [.agg (avs r)] .none [] = some ⟨oc (errOf f r), .none, []⟩ := by
  unfold errOf
  rw [dif_pos h]
  exact Classical.choose_spec h
theorem dec_ok {r : Row} (ht : Has Pg y_api_Dec r) (hb : bulks r < SMALL) : evp f_tree_dec [.agg (avs r)] .none [] = some ⟨oc (errOf f_tree_dec r), .none, []⟩ :=
  errOf_ok ((ck_all _).dec r (Nat.le_refl _) ht hb)
end Go.Proofs
