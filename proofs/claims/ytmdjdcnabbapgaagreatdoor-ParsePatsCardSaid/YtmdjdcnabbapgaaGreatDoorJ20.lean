/- Texts of this proof folded into one: U7 U8 Q5 U9. -/
import Derived.Test.YtmdjdcnabbapgaaGreatDoorJ17
import Derived.Test.YtmdjdcnabbapgaaGreatDoorJ19
import Derived.Test.YtmdjdcnabbapgaaGreatDoorJ18
import Derived.Test.YtmdjdcnabbapgaaGreatDoorJ10
section
/- PARSE: the document's checks, depth and sameness of patterns -/
set_option linter.unusedVariables false
set_option linter.unusedSimpArgs false
set_option maxRecDepth 100000
open Go Go.Eng Go.Pa
open Go.Lx (T Tok)
namespace Go.Proofs
abbrev paRows (l : List Pat) : List (List AV) := l.map fun t => avs t.row
def patKids : Pat → List Pat
  | .pair a b => [a, b]
  | .conA _ a => [a]
  | _ => []
theorem patQ_kids (t : Pat) : patQ t = paRows (patKids t) := by cases t <;> rfl
theorem pkids_cnt {t k : Pat} (h : k ∈ patKids t) : k.cnt < t.cnt := by
  cases t with
  | pair a b => simp [patKids] at h; rcases h with rfl | rfl <;> (simp only [Pat.cnt]; omega)
  | conA p a => simp [patKids] at h; subst h; simp only [Pat.cnt]; omega
  | _ => simp [patKids] at h
theorem pkids_ok {t k : Pat} (ho : t.Ok) (h : k ∈ patKids t) : k.Ok := by
  cases t with
  | pair a b => simp [patKids] at h; rcases h with rfl | rfl; exact ho.1; exact ho.2
  | conA p a => simp [patKids] at h; subst h; exact ho.2
  | _ => simp [patKids] at h
theorem pkids_len (t : Pat) : (patKids t).length ≤ 2 := by cases t <;> simp [patKids]
theorem prow_at {l : List Pat} {i : Nat} (h : i < l.length) : (0 : Int) ≤ (i : Int) ∧ (paRows l)[(i : Int).toNat]? = some [vI (patK l[i]), vS (patN l[i]), .slice 1 (patP l[i]) .no, vI (patM l[i]), .slice 5 (patQ l[i]) .no] :=
  ⟨Int.natCast_nonneg i, by rw [Int.toNat_natCast, List.getElem?_map, List.getElem?_eq_getElem h, Option.map_some, pat_row]⟩
theorem patP_ok {t : Pat} (h : t.Ok) : ∃ p, patP t = pRows p ∧ pathOk p := by
  cases t with
  | con p => exact ⟨p, rfl, h⟩
  | conA p a => exact ⟨p, rfl, h.1⟩
  | _ => exact ⟨[], rfl, by simp, fun w hw => by cases hw⟩
/-! ### checks -/
theorem y_rpats (p : List (List AV)) : X_rpats p = Y_rpats p := by delta X_rpats Y_rpats; rfl
theorem r4pats {l : List Pat} (hl : l.length < SM) (h : ∀ t ∈ l, E4 f_waferref04_pat [patV t]) : E4 f_waferref04_pats [.slice 5 (paRows l) .no] := by
  unfold SM at hl
  refine kt6_e (wp_eqp (X_rpats_eq _) (wp_eq2 (y_rpats _) (loop6 (fun i : Nat => ⟨tm2 19 [(0, (.slice 5 (paRows l) .no)), (3, (vI i))], lm2 19 [], ⟨[], [], .none, 0⟩⟩) (fun i => i ≤ l.length) (fun i => l.length - i) 0 (by kernel_rfl) (Nat.zero_le _) ?_)))
  intro i hi
  refine wp_eqp (X_rpatsR_eq _ i) (wp_if2 (fun hlt => ?_) (fun _ => wp_out ⟨_, by decide, rfl⟩))
  have hlt := of_decide_eq_true hlt
  simp only [List.length_map] at hlt
  have hi2 : i < l.length := by omega
  have hc := h l[i] (List.getElem_mem hi2)
  rw [← patV_eq] at hc
  rw [kw_succ (x := i) (by omega)]
  exact ⟨_, _, _, _, _, prow_at hi2, wp_call4 hc fun e he => wp_if2 (fun _ => wp_out ⟨_, he, rfl⟩) (fun _ => wp_done ⟨i + 1, ⟨by omega, by omega⟩, rfl⟩)⟩
theorem r4pat : ∀ t : Pat, t.Ok → E4 f_waferref04_pat [patV t]
  | .any, _ => ⟨0, by decide, ac 60 (by kernel_rfl)⟩
  | .tru, _ => ⟨0, by decide, ac 60 (by kernel_rfl)⟩
  | .fls, _ => ⟨0, by decide, ac 60 (by kernel_rfl)⟩
  | .unit, _ => ⟨0, by decide, ac 60 (by kernel_rfl)⟩
  | .var n, h => by
    have hn : (bs n).size < SM := by have : n.length ≤ 4096 := h; rw [bsz]; unfold SM; omega
    refine kt6_e (wp_eqp (X_rpat2c_eq (bs n)) (wp_stage (wp_done (wp_eqp (X_rpat2cs1_eq _) (wp_call4 (r4name hn) fun e he => ⟨_, he, rfl⟩)))))
  | .int m, h => by
    have hc : E4 f_waferref04_pats [.slice 5 [] .no] := r4pats (l := []) (by unfold SM; simp) (fun t ht => by cases ht)
    refine kt6_e (wp_eqp (X_rpat3c_eq m) ?_)
    repeat' first
      | exact ⟨_, by decide, rfl⟩
      | exact ⟨_, by assumption, rfl⟩
      | refine wp_call4 hc (fun e he => ?_)
      | refine wp_done (wp_eqp (X_rpat3cs2_eq ..) ?_)
      | refine wp_need ?_
      | refine wp_out ?_
      | refine wp_stage ?_
      | refine wp_if2 (fun h => ?_) (fun h => ?_)
      | refine wp_done (wp_eqp (X_rpat3cs1_eq _) ?_)
  | .con p, h => by
    have e : patV (.con p) = .agg [vI 8, vS ⟨#[]⟩, .slice 1 (pRows p) .no, vI 0, .slice 5 [] .no] := by rw [← patV_eq]; rfl
    have hc : E4 f_waferref04_pats [.slice 5 [] .no] := r4pats (l := []) (by unfold SM; simp) (fun t ht => by cases ht)
    rw [e]
    refine kt6_e (wp_eqp (X_rpat8c_eq (pRows p)) ?_)
    repeat' first
      | exact ⟨_, by decide, rfl⟩
      | exact ⟨_, by assumption, rfl⟩
      | refine wp_need ?_
      | refine wp_out ?_
      | refine wp_stage ?_
      | refine wp_call4 (r4last h) (fun e he => ?_)
      | refine wp_call4 hc (fun e he => ?_)
      | refine wp_if2 (fun h => ?_) (fun h => ?_)
      | refine wp_done (wp_eqp (X_rpat8cs1_eq _) ?_)
      | refine wp_done (wp_eqp (X_rpat8cs2_eq ..) ?_)
  | .conA p a, h => by
    have e : patV (.conA p a) = .agg [vI 8, vS ⟨#[]⟩, .slice 1 (pRows p) .no, vI 0, .slice 5 [avs a.row] .no] := by rw [← patV_eq]; rfl
    have ha := r4pat a h.2
    have hc : E4 f_waferref04_pats [.slice 5 [avs a.row] .no] := r4pats (l := [a]) (by unfold SM; simp) (fun t ht => by simp at ht; subst ht; exact ha)
    have hp := h.1
    rw [e]
    refine kt6_e (wp_eqp (X_rpat8ac_eq (pRows p) (avs a.row)) ?_)
    repeat' first
      | exact ⟨_, by decide, rfl⟩
      | exact ⟨_, by assumption, rfl⟩
      | refine wp_need ?_
      | refine wp_out ?_
      | refine wp_stage ?_
      | refine wp_call4 (r4last hp) (fun e he => ?_)
      | refine wp_call4 hc (fun e he => ?_)
      | refine wp_if2 (fun h => ?_) (fun h => ?_)
      | refine wp_done (wp_eqp (X_rpat8acs1_eq ..) ?_)
      | refine wp_done (wp_eqp (X_rpat8acs2_eq ..) ?_)
  | .pair a b, h => by
    have ha := r4pat a h.1
    have hb := r4pat b h.2
    have hc : E4 f_waferref04_pats [.slice 5 [avs a.row, avs b.row] .no] := r4pats (l := [a, b]) (by unfold SM; simp) (fun t ht => by
      simp at ht; rcases ht with rfl | rfl
      · exact ha
      · exact hb)
    refine kt6_e (wp_eqp (X_rpat7c_eq (avs a.row) (avs b.row)) ?_)
    repeat' first
      | exact ⟨_, by decide, rfl⟩
      | exact ⟨_, by assumption, rfl⟩
      | refine wp_need ?_
      | refine wp_out ?_
      | refine wp_stage ?_
      | refine wp_call4 hc (fun e he => ?_)
      | refine wp_if2 (fun h => ?_) (fun h => ?_)
      | refine wp_done (wp_eqp (X_rpat7cs1_eq ..) ?_)
      | refine wp_done (wp_eqp (X_rpat7cs2_eq ..) ?_)
/-! ### sameness -/
theorem psame_round {l : List Pat} {N : Nat} (ho : ∀ t ∈ l, t.Ok) (hc : ∀ t ∈ l, t.cnt ≤ N)
    (ih : ∀ M, M < N → ∀ l : List Pat, l.length < SM → (∀ t ∈ l, t.Ok) → (∀ t ∈ l, t.cnt ≤ M) → evp f_waferref04_patsSame [.slice 5 (paRows l) .no, .slice 5 (paRows l) .no] .none [] = some ⟨.ret (vB true), .none, []⟩) {i : Nat} (hi : i < l.length) :
    evp f_waferref04_patsSame [.slice 5 (patQ l[i]) .no, .slice 5 (patQ l[i]) .no] .none [] = some ⟨.ret (vB true), .none, []⟩ ∧ evp f_waferref04_texts [.slice 1 (patP l[i]) .no, .slice 1 (patP l[i]) .no] .none [] = some ⟨.ret (vB true), .none, []⟩ := by
  have hm := List.getElem_mem hi
  have h1 := hc _ hm
  have h2 := (pdep_cnt l[i]).2
  obtain ⟨p, hp1, hp2⟩ := patP_ok (ho _ hm)
  rw [patQ_kids, hp1]
  refine ⟨ih (N - 1) (by omega) _ (by have := pkids_len l[i]; unfold SM; omega) (fun t ht => pkids_ok (ho _ hm) ht) (fun t ht => by have := pkids_cnt ht; omega), r4texts (by have := hp2.1; unfold SM; omega)⟩
theorem r4patsSame : ∀ N (l : List Pat), l.length < SM → (∀ t ∈ l, t.Ok) → (∀ t ∈ l, t.cnt ≤ N) → evp f_waferref04_patsSame [.slice 5 (paRows l) .no, .slice 5 (paRows l) .no] .none [] = some ⟨.ret (vB true), .none, []⟩ := by
  intro N
  induction N using Nat.strongRecOn with
  | ind N ih =>
    intro l hl ho hc
    unfold SM at hl
    have hY : (X_rpatsSame (paRows l) (paRows l)).F = Y_rpatsSame (paRows l) (paRows l) := by delta X_rpatsSame Y_rpatsSame; rfl
    refine kt6_is (wp_eqp (X_rpatsSame_eq ..) (wp_if2 (fun h => absurd rfl (bne_iff_ne.1 h)) (fun _ => wp_eq2 hY (loop6 (fun i : Nat => ⟨tm2 60 [(0, (.slice 5 (paRows l) .no)), (1, (.slice 5 (paRows l) .no)), (5, (vI (i)))], lm2 60 [], ⟨[], [], .none, 0⟩⟩) (fun i => i ≤ l.length) (fun i => l.length - i) 0 (by kernel_rfl) (Nat.zero_le _) ?_))))
    intro i hi
    refine wp_eqp (X_rpatsSameR_eq ..) (wp_if2 (fun hlt => ?_) (fun _ => wp_out rfl))
    have hlt := of_decide_eq_true hlt
    simp only [List.length_map] at hlt
    have hi2 : i < l.length := by omega
    obtain ⟨q1, q2⟩ := psame_round ho hc ih hi2
    refine ⟨_, _, _, _, _, prow_at hi2, _, _, _, _, _, prow_at hi2, wp_stage (wp_if2 (fun h => absurd rfl (bne_iff_ne.1 h)) (fun _ => wp_if2 (fun h => by rw [beq_tx] at h; simp at h) (fun _ => wp_if2 (fun h => absurd rfl (bne_iff_ne.1 h)) (fun _ => ⟨true, q2, wp_if2 nf (fun _ => wp_done (wp_eqp (X_rpatsSameRs1_eq ..) ⟨true, q1, wp_if2 nf (fun _ => ?_)⟩))⟩))))⟩
    rw [kw_succ (x := i) (by omega)]
    exact wp_done ⟨i + 1, ⟨by omega, by omega⟩, rfl⟩
theorem r4SamePat {t : Pat} (ho : t.Ok) : evp f_waferref04_SamePat [patV t, patV t] .none [] = some ⟨.ret (vB true), .none, []⟩ := by
  rw [← patV_eq]
  refine kt6_is (wp_eqp (X_rSamePat_eq ..) ⟨true, ?_, rfl⟩)
  have e : [[vI (patK t), vS (patN t), .slice 1 (patP t) .no, vI (patM t), .slice 5 (patQ t) .no]] = paRows [t] := by simp only [paRows, List.map_cons, List.map_nil, pat_row]
  rw [e]
  have hY : (X_rpatsSamef (paRows [t]) (paRows [t])).F = Y_rpatsSamef (paRows [t]) (paRows [t]) := by delta X_rpatsSamef Y_rpatsSamef; rfl
  refine kt6_is (wp_eqp (X_rpatsSamef_eq ..) (wp_if2 (fun h => absurd rfl (bne_iff_ne.1 h)) (fun _ => wp_eq2 hY (loop6 (fun i : Nat => ⟨tm2 60 [(0, (.slice 5 (paRows [t]) .full)), (1, (.slice 5 (paRows [t]) .full)), (5, (vI (i)))], lm2 60 [], ⟨[], [], .none, 0⟩⟩) (fun i => i ≤ 1) (fun i => 1 - i) 0 (by kernel_rfl) (Nat.zero_le _) ?_))))
  intro i hi
  refine wp_eqp (X_rpatsSamefR_eq ..) (wp_if2 (fun hlt => ?_) (fun _ => wp_out rfl))
  have hlt := of_decide_eq_true hlt
  simp only [List.length_map, List.length_cons, List.length_nil] at hlt
  have hi2 : i < [t].length := by simp; omega
  have ho' : ∀ u ∈ [t], u.Ok := fun u hu => by simp at hu; subst hu; exact ho
  obtain ⟨q1, q2⟩ := psame_round (N := t.cnt) (l := [t]) ho' (fun u hu => by simp at hu; subst hu; exact Nat.le_refl _) (fun M _ l h1 h2 h3 => r4patsSame M l h1 h2 h3) hi2
  refine ⟨_, _, _, _, _, prow_at hi2, _, _, _, _, _, prow_at hi2, wp_stage (wp_if2 (fun h => absurd rfl (bne_iff_ne.1 h)) (fun _ => wp_if2 (fun h => by rw [beq_tx] at h; simp at h) (fun _ => wp_if2 (fun h => absurd rfl (bne_iff_ne.1 h)) (fun _ => ⟨true, q2, wp_if2 nf (fun _ => wp_done (wp_eqp (X_rpatsSamefRs1_eq ..) ⟨true, q1, wp_if2 nf (fun _ => ?_)⟩))⟩))))⟩
  rw [kw_succ (x := i) (by omega)]
  exact wp_done ⟨i + 1, ⟨by omega, by omega⟩, rfl⟩
/-! ### depth -/
def pdepL : List Pat → Nat
  | [] => 0
  | t :: l => max t.dep (pdepL l)
theorem pdepL_app (a b : List Pat) : pdepL (a ++ b) = max (pdepL a) (pdepL b) := by
  induction a with
  | nil => simp [pdepL]
  | cons t a ih => simp only [List.cons_append, pdepL, ih]; omega
theorem pdep_kids (t : Pat) : t.dep = pdepL (patKids t) + 1 := by cases t <;> simp [Pat.dep, patKids, pdepL]
theorem pdepL_take {l : List Pat} {i : Nat} (h : i < l.length) : pdepL (l.take (i + 1)) = max (pdepL (l.take i)) l[i].dep := by
  rw [List.take_succ_eq_append_getElem h, pdepL_app]; simp [pdepL]
theorem pdepL_le {l : List Pat} {N : Nat} (h : ∀ t ∈ l, t.cnt ≤ N) : pdepL l ≤ N := by
  induction l with
  | nil => simp [pdepL]
  | cons t l ih =>
    have h1 := h t (by simp)
    have h2 := (pdep_cnt t).1
    have h3 := ih fun u hu => h u (by simp [hu])
    simp only [pdepL]; omega
theorem dep_stepP {QD : List (St → Prop)} {QR : CRes → Prop} {Q : St → Prop} {m d : Nat} {S : Int → St} (hd : d < SM) (h : Q (S (max m (d + 1) : Nat))) :
    (KT.branch (decide ((0 : Int) > (d : Int)))
      (.branch (decide ((m : Int) > IntKind.i64.wrap (0 + 1))) (.done (S m)) (.done (S (IntKind.i64.wrap (0 + 1)))))
      (.branch (decide ((m : Int) > IntKind.i64.wrap ((d : Int) + 1))) (.done (S m)) (.done (S (IntKind.i64.wrap ((d : Int) + 1)))))).wp Pg cfg0 evp (Q :: QD) QR := by
  unfold SM at hd
  refine wp_if2 (fun h0 => absurd (of_decide_eq_true h0) (by omega)) (fun _ => ?_)
  rw [kw_succ (x := d) (by omega)]
  refine wp_if2 (fun h1 => wp_done ?_) (fun h1 => wp_done ?_)
  · have h1 := of_decide_eq_true h1
    rw [show max m (d + 1) = m by omega] at h; exact h
  · have h1 := of_decide_eq_false h1
    rw [show max m (d + 1) = d + 1 by omega] at h; exact h
theorem r4patsDepth : ∀ N (l : List Pat), N < SM → l.length < SM → (∀ t ∈ l, t.cnt ≤ N) → evp f_waferref04_patsDepth [.slice 5 (paRows l) .no] .none [] = some ⟨.ret (vI (pdepL l : Nat)), .none, []⟩ := by
  intro N
  induction N using Nat.strongRecOn with
  | ind N ih =>
    intro l hN hl hc
    have hl' := hl
    unfold SM at hl'
    have hY : X_rpatsDepth (paRows l) = Y_rpatsDepth (paRows l) := by delta X_rpatsDepth Y_rpatsDepth; rfl
    refine kt6_is (wp_eqp (X_rpatsDepth_eq ..) (wp_eq2 hY (loop6 (fun i : Nat => ⟨tm2 25 [(0, (.slice 5 (paRows l) .no)), (3, (vI (pdepL (l.take i) : Nat))), (4, (vI (i)))], lm2 25 [], ⟨[], [], .none, 0⟩⟩) (fun i => i ≤ l.length) (fun i => l.length - i) 0 (by kernel_rfl) (Nat.zero_le _) ?_)))
    intro i hi
    refine wp_eqp (X_rpatsDepthR_eq ..) (wp_if2 (fun hlt => ?_) (fun hlt => wp_out ?_))
    · have hlt := of_decide_eq_true hlt
      simp only [List.length_map] at hlt
      have hi2 : i < l.length := by omega
      have h1 := hc _ (List.getElem_mem hi2)
      have h2 := (pdep_cnt l[i]).2
      have hk := ih (N - 1) (by omega) (patKids l[i]) (by omega) (by have := pkids_len l[i]; unfold SM; omega) (fun t ht => by have := pkids_cnt ht; omega)
      rw [← patQ_kids] at hk
      have hdl := pdepL_le (l := patKids l[i]) (N := N) (fun t ht => by have := pkids_cnt ht; omega)
      refine ⟨_, _, _, _, _, prow_at hi2, _, hk, ?_⟩
      rw [kw_succ (x := i) (by omega)]
      refine dep_stepP (S := fun m => ⟨tm2 25 [(0, (.slice 5 (paRows l) .no)), (3, (vI m)), (4, (vI ((i + 1 : Nat) : Int)))], lm2 25 [], ⟨[], [], .none, 0⟩⟩) (by omega) ⟨i + 1, ⟨by omega, by omega⟩, ?_⟩
      rw [pdepL_take hi2, pdep_kids]
    · have hlt := of_decide_eq_false hlt
      simp only [List.length_map] at hlt
      rw [show i = l.length by omega, List.take_length]
      exact rfl
theorem r4RightPat {t : Pat} (ho : t.Ok) (hc : t.cnt < SM) : ∃ e : Int, evp f_waferref04_RightPat [patV t] .none [] = some ⟨.ret (vI e), .none, []⟩ ∧ (e = 4 ↔ 100 < t.dep) := by
  obtain ⟨e0, h40, h0⟩ := r4pat t ho
  rw [← patV_eq] at h0 ⊢
  have e : [[vI (patK t), vS (patN t), .slice 1 (patP t) .no, vI (patM t), .slice 5 (patQ t) .no]] = paRows [t] := by simp only [paRows, List.map_cons, List.map_nil, pat_row]
  have hd : evp f_waferref04_patsDepth [.slice 5 [[vI (patK t), vS (patN t), .slice 1 (patP t) .no, vI (patM t), .slice 5 (patQ t) .no]] .full] .none [] = some ⟨.ret (vI (t.dep : Nat)), .none, []⟩ := by
    rw [e]
    have hY : X_rpatsDepthf (paRows [t]) = Y_rpatsDepthf (paRows [t]) := by delta X_rpatsDepthf Y_rpatsDepthf; rfl
    refine kt6_is (wp_eqp (X_rpatsDepthf_eq ..) (wp_eq2 hY (loop6 (fun i : Nat => ⟨tm2 25 [(0, (.slice 5 (paRows [t]) .full)), (3, (vI (pdepL ([t].take i) : Nat))), (4, (vI (i)))], lm2 25 [], ⟨[], [], .none, 0⟩⟩) (fun i => i ≤ 1) (fun i => 1 - i) 0 (by kernel_rfl) (Nat.zero_le _) ?_)))
    intro i hi
    refine wp_eqp (X_rpatsDepthfR_eq ..) (wp_if2 (fun hlt => ?_) (fun hlt => wp_out ?_))
    · have hlt := of_decide_eq_true hlt
      simp only [List.length_map, List.length_cons, List.length_nil] at hlt
      obtain rfl : i = 0 := by omega
      have hi2 : 0 < [t].length := by simp
      have h1 : [t][0].cnt ≤ t.cnt := Nat.le_refl _
      have hk := r4patsDepth t.cnt (patKids [t][0]) hc (by have := pkids_len [t][0]; unfold SM; omega) (fun u hu => by have := pkids_cnt hu; omega)
      rw [← patQ_kids] at hk
      have hdl := pdepL_le (l := patKids [t][0]) (N := t.cnt) (fun u hu => by have := pkids_cnt hu; omega)
      refine ⟨_, _, _, _, _, prow_at hi2, _, hk, ?_⟩
      rw [kw_succ (x := 0) (by omega)]
      refine dep_stepP (S := fun m => ⟨tm2 25 [(0, (.slice 5 (paRows [t]) .full)), (3, (vI m)), (4, (vI ((0 + 1 : Nat) : Int)))], lm2 25 [], ⟨[], [], .none, 0⟩⟩) (by omega) ⟨0 + 1, ⟨by omega, by omega⟩, ?_⟩
      rw [pdepL_take hi2, pdep_kids]
    · have hlt := of_decide_eq_false hlt
      simp only [List.length_map, List.length_cons, List.length_nil] at hlt
      have e2 : pdepL ([t].take i) = t.dep := by rw [show i = [t].length by simp; omega, List.take_length]; simp [pdepL]
      rw [e2]; exact rfl
  by_cases h : 100 < t.dep
  · refine ⟨4, kt6_is (wp_eqp (X_rRightPat_eq ..) ⟨_, hd, wp_if2 (fun _ => rfl) (fun hn => absurd (of_decide_eq_false hn) (by omega))⟩), fun _ => h, fun _ => rfl⟩
  · refine ⟨e0, kt6_is (wp_eqp (X_rRightPat_eq ..) ⟨_, hd, wp_if2 (fun hn => absurd (of_decide_eq_true hn) (by omega)) (fun _ => ⟨_, h0, rfl⟩)⟩), fun h4 => absurd h4 h40, fun hh => absurd hh h⟩
end Go.Proofs
end

section
/- PARSE: the program's RightPat: it answers ErrDeep just if a pattern is nested too deep -/
set_option linter.unusedVariables false
set_option linter.unusedSimpArgs false
set_option maxRecDepth 100000
open Go Go.Eng Go.Pa
open Go.Lx (T Tok)
namespace Go.Proofs
theorem has_int64 {n : Int} (h : 0 ≤ n ∧ n < 9223372036854775808) : Has Pg y_int64 [ci n] := .int Ck.u_int64 (by simp [Lit.wf, IntKind.min, IntKind.max, IntKind.bits, IntKind.signed]; omega)
theorem pat_len (t : Pat) : t.row.length = 5 := by cases t <;> rfl
theorem has_pat5 {k : Int} {n : T} {p : List T} {v : Int} {l : List Row} (hk : 0 ≤ k ∧ k < 9223372036854775808) (hn : nameOk n) (hp : pathOk p) (hv : 0 ≤ v ∧ v < 9223372036854775808) (hl : l.length ≤ 2) (h : ∀ r ∈ l, Has Pg y_api_Pat r) (h5 : ∀ r ∈ l, r.length = 5) : Has Pg y_api_Pat (patR k n p v l) :=
  has_fields Ck.s_Pat (.cons (a := [ci k]) (has_int hk) (.cons (a := [cs n]) (has_str hn) (.cons (a := [cp p]) (has_path hp) (.cons (a := [ci v]) (has_int64 hv) (.cons (a := [.rows 5 l]) (has_rows Ck.u_s_Pat Ck.c_Pat (by unfold maxLen; omega) h h5) .nil)))))
theorem has_pat : ∀ t : Pat, t.Ok → Has Pg y_api_Pat t.row
  | .any, _ => has_pat5 (by decide) name0 path0 (by decide) (by simp) (fun r hr => by cases hr) (fun r hr => by cases hr)
  | .tru, _ => has_pat5 (by decide) name0 path0 (by decide) (by simp) (fun r hr => by cases hr) (fun r hr => by cases hr)
  | .fls, _ => has_pat5 (by decide) name0 path0 (by decide) (by simp) (fun r hr => by cases hr) (fun r hr => by cases hr)
  | .unit, _ => has_pat5 (by decide) name0 path0 (by decide) (by simp) (fun r hr => by cases hr) (fun r hr => by cases hr)
  | .var n, h => has_pat5 (by decide) h path0 (by decide) (by simp) (fun r hr => by cases hr) (fun r hr => by cases hr)
  | .int v, h => has_pat5 (by decide) name0 path0 (by have h : 0 ≤ v ∧ v < 9223372036854775808 := h; omega) (by simp) (fun r hr => by cases hr) (fun r hr => by cases hr)
  | .con p, h => has_pat5 (by decide) name0 h (by decide) (by simp) (fun r hr => by cases hr) (fun r hr => by cases hr)
  | .conA p a, h => has_pat5 (by decide) name0 h.1 (by decide) (by simp) (fun r hr => by simp at hr; subst hr; exact has_pat a h.2) (fun r hr => by simp at hr; subst hr; exact pat_len _)
  | .pair a b, h => has_pat5 (by decide) name0 path0 (by decide) (by simp) (fun r hr => by
      simp at hr; rcases hr with rfl | rfl
      · exact has_pat a h.1
      · exact has_pat b h.2) (fun r hr => by simp at hr; rcases hr with rfl | rfl <;> exact pat_len _)
theorem pat_one (t : Pat) : Ck.oneR t.row = 1 := by cases t <;> rfl
theorem pcnt_row : ∀ t : Pat, Ck.cntR t.row + 1 = t.cnt
  | .any => by simp [Pat.row, patR, cp, Ck.cntR, Ck.cntC, Ck.cnts, Pat.cnt]
  | .tru => by simp [Pat.row, patR, cp, Ck.cntR, Ck.cntC, Ck.cnts, Pat.cnt]
  | .fls => by simp [Pat.row, patR, cp, Ck.cntR, Ck.cntC, Ck.cnts, Pat.cnt]
  | .unit => by simp [Pat.row, patR, cp, Ck.cntR, Ck.cntC, Ck.cnts, Pat.cnt]
  | .var n => by simp [Pat.row, patR, cp, Ck.cntR, Ck.cntC, Ck.cnts, Pat.cnt]
  | .int v => by simp [Pat.row, patR, cp, Ck.cntR, Ck.cntC, Ck.cnts, Pat.cnt]
  | .con p => by simp [Pat.row, patR, cp, Ck.cntR, Ck.cntC, Ck.cnts, Pat.cnt]
  | .conA p a => by
    have h1 := pcnt_row a
    simp only [Pat.row, patR, cp, Ck.cntR, Ck.cntC, Ck.cnts, Pat.cnt, pat_one]; simp; omega
  | .pair a b => by
    have h1 := pcnt_row a; have h2 := pcnt_row b
    simp only [Pat.row, patR, cp, Ck.cntR, Ck.cntC, Ck.cnts, Pat.cnt, pat_one]; simp; omega
theorem pdep_row : ∀ (t : Pat) (m d : Nat), Ck.wmR (max m (d + 1)) (d + 1) t.row = max m (d + t.dep)
  | .any, m, d => by simp [Pat.row, patR, cp, Ck.wmR, Ck.wmC, Ck.wms, Pat.dep]
  | .tru, m, d => by simp [Pat.row, patR, cp, Ck.wmR, Ck.wmC, Ck.wms, Pat.dep]
  | .fls, m, d => by simp [Pat.row, patR, cp, Ck.wmR, Ck.wmC, Ck.wms, Pat.dep]
  | .unit, m, d => by simp [Pat.row, patR, cp, Ck.wmR, Ck.wmC, Ck.wms, Pat.dep]
  | .var n, m, d => by simp [Pat.row, patR, cp, Ck.wmR, Ck.wmC, Ck.wms, Pat.dep]
  | .int v, m, d => by simp [Pat.row, patR, cp, Ck.wmR, Ck.wmC, Ck.wms, Pat.dep]
  | .con p, m, d => by simp [Pat.row, patR, cp, Ck.wmR, Ck.wmC, Ck.wms, Pat.dep]
  | .conA p a, m, d => by
    have h1 := pdep_row a (max m (d + 1)) (d + 1)
    simp only [Pat.row, patR, cp, Ck.wmR, Ck.wmC, Ck.wms, Pat.dep, if_true, ite_self]
    rw [if_neg (by decide), h1]; omega
  | .pair a b, m, d => by
    have h1 := pdep_row a (max m (d + 1)) (d + 1)
    have h2 := pdep_row b (max (max m (d + 1)) (d + 1 + a.dep)) (d + 1)
    simp only [Pat.row, patR, cp, Ck.wmR, Ck.wmC, Ck.wms, Pat.dep, if_true, ite_self]
    rw [if_neg (by decide), h1, h2]; omega
theorem bulk_patR {k : Int} {n : T} {p : List T} {v : Int} {l : List Row} (hn : nameOk n) (hp : pathOk p) : bulks (patR k n p v l) ≤ bulkss l + 90000 := by
  have h1 := bulk_path hp.2
  have h2 := hp.1
  have h3 : n.length ≤ 4096 := hn
  simp only [patR, cp, bulks, CT.bulk, bsz]; omega
theorem bulk_pat : ∀ t : Pat, t.Ok → bulks t.row ≤ 100000 * t.cnt
  | .any, _ => by have h := bulk_patR (k := 1) (v := 0) (l := []) name0 path0; simp only [bulkss] at h; simp only [Pat.row, Pat.cnt]; omega
  | .tru, _ => by have h := bulk_patR (k := 4) (v := 0) (l := []) name0 path0; simp only [bulkss] at h; simp only [Pat.row, Pat.cnt]; omega
  | .fls, _ => by have h := bulk_patR (k := 5) (v := 0) (l := []) name0 path0; simp only [bulkss] at h; simp only [Pat.row, Pat.cnt]; omega
  | .unit, _ => by have h := bulk_patR (k := 6) (v := 0) (l := []) name0 path0; simp only [bulkss] at h; simp only [Pat.row, Pat.cnt]; omega
  | .var n, hn => by have h := bulk_patR (k := 2) (n := n) (v := 0) (l := []) hn path0; simp only [bulkss] at h; simp only [Pat.row, Pat.cnt]; omega
  | .int v, _ => by have h := bulk_patR (k := 3) (v := v) (l := []) name0 path0; simp only [bulkss] at h; simp only [Pat.row, Pat.cnt]; omega
  | .con p, hp => by have h := bulk_patR (k := 8) (v := 0) (l := []) name0 hp; simp only [bulkss] at h; simp only [Pat.row, Pat.cnt]; omega
  | .conA p a, hp => by have h := bulk_patR (k := 8) (v := 0) (l := [a.row]) name0 hp.1; have h1 := bulk_pat a hp.2; simp only [bulkss] at h; simp only [Pat.row, Pat.cnt]; omega
  | .pair a b, hp => by have h := bulk_patR (k := 7) (v := 0) (l := [a.row, b.row]) name0 path0; have h1 := bulk_pat a hp.1; have h2 := bulk_pat b hp.2; simp only [bulkss] at h; simp only [Pat.row, Pat.cnt]; omega
theorem c_RightPat {t : Pat} (ho : t.Ok) (hc : t.cnt < 1000000) : ∃ e : Int, evp f_tree_RightPat [patV t] .none [] = some ⟨.ret (vI e), .none, []⟩ ∧ (e = 4 ↔ 100 < t.dep) := by
  have hT := has_pat t ho
  have hcr := pcnt_row t
  have hb := bulk_pat t ho
  have h1R := pat_one t
  have hcn : Ck.cnts [t.row] = t.cnt := by simp only [Ck.cnts, h1R]; omega
  have hw := Ck.walk_patsf (N := Ck.cnts [t.row]) (fun M _ => Ck.walk_all M) [t.row] (Nat.le_refl _) (fun r hr => by simp at hr; subst hr; exact hT) 0 0 0 (by rw [hcn]; unfold Ck.BIG; omega) (by rw [hcn]; unfold Ck.BIG; omega)
  have hwm : Ck.wms 0 0 [t.row] = t.dep := by simp only [Ck.wms]; rw [pdep_row]; omega
  rw [hwm] at hw
  simp only [avss] at hw
  obtain ⟨er, he4, hty⟩ := (Ck.ck_all (Ck.oneR t.row + Ck.cntR t.row)).pat t.row (Nat.le_refl _) hT (by unfold Ck.SMALL; omega)
  have htyK : ∀ K : Heap, lowss K.length K = true → evp f_tree_pat [patV t] .none K = some ⟨Ck.oc er, .none, K⟩ := fun K hK => ev_lift0 gx_ren hty (map_ren _ _) (by unfold Ck.oc; split <;> rfl) hK
  rw [pat_row] at hw
  by_cases h : 100 < t.dep
  · rw [← patV_eq]
    exact ⟨4, ktc6_is (wp_eqp (X_RightPat_eq ..) ⟨_, _, _, hw, wp_if2 (fun _ => rfl) (fun hn => absurd (of_decide_eq_false hn) (by omega))⟩), fun _ => h, fun _ => rfl⟩
  · have hk := htyK [[vI (0 + Ck.cnts [t.row] : Nat), vI 0, vI (t.dep : Nat)], [vI 0]] rfl
    rw [← patV_eq] at hk ⊢
    refine ⟨er, ktc6_is (wp_eqp (X_RightPat_eq ..) ⟨_, _, _, hw, wp_if2 (fun hn => absurd (of_decide_eq_true hn) (by omega)) (fun _ => ?_)⟩), fun h4 => absurd h4 he4, fun hh => absurd hh h⟩
    unfold Ck.oc at hk
    by_cases h0 : er = 0
    · rw [if_pos h0] at hk
      subst h0
      exact .inl ⟨hk, rfl⟩
    · rw [if_neg h0] at hk
      exact .inr ⟨er, hk, rfl⟩
end Go.Proofs
end

section
/- PARSE: the document's reader: patterns -/
set_option linter.unusedVariables false
set_option linter.unusedSimpArgs false
set_option maxRecDepth 100000
open Go Go.Eng Go.Pa
open Go.Lx (T Tok)
namespace Go.Proofs
def shPat (x : AV) : Prop := ∃ k n p m q, x = .agg [vI k, vS n, .slice 1 p .no, vI m, .slice 5 q .no]
section
variable {QD : List (St → Prop)} {QR : CRes → Prop} {L : List Tok} {z : Nat} {g : FuncId} {args : List AV} {H : Heap}
theorem wq_takeB {k : Nat} {w : ByteArray} {t f : Bool → List (List AV) → Int → Int → Int → Int → KT} (hL : L.length < BIG) (hk : k ≤ L.length)
    (h1 : isW (tx w) (L.drop k) = true → L.drop (k + 1) = (L.drop k).tail → k + 1 ≤ L.length → (t true (tks L) z (k + 1 : Nat) 0 0).wp Pg cfg0 evp QD QR) (h2 : isW (tx w) (L.drop k) = false → (f false (tks L) z k 0 0).wp Pg cfg0 evp QD QR) :
    (KT.exB fun b => .exR fun m => .exI fun a => .exI fun e => .exI fun p => .exI fun d' => .call f_waferref05_Reader_Take [.ptr 0 0, vS w] .none (qH L z k 0 0) ⟨.ret (vB b), .none, [hp5 m a e p d']⟩ (.branch b (t b m a e p d') (f b m a e p d'))).wp Pg cfg0 evp QD QR := by
  have c := c_rTake L z k w hL
  cases hb : isW (tx w) (L.drop k) with
  | true =>
    rw [tkH, hb] at c
    have hd : L.drop (k + 1) = (L.drop k).tail ∧ k + 1 ≤ L.length := by
      cases hD : L.drop k with
      | nil => rw [hD] at hb; cases hb
      | cons t r => exact ⟨(dropc hD).2.2, (dropc hD).1⟩
    exact ⟨true, _, _, _, _, _, c, fun _ => h1 hb hd.1 hd.2, fun h => (by cases h)⟩
  | false =>
    rw [tkH, hb] at c
    exact ⟨false, _, _, _, _, _, c, fun h => (by cases h), fun _ => h2 hb⟩
theorem wb_takeB {k e p : Nat} {w : ByteArray} {t f : Bool → List (List AV) → Int → Int → Int → Int → KT} (he : e ≠ 0) (h2 : (f false (tks L) z k e p).wp Pg cfg0 evp QD QR) :
    (KT.exB fun b => .exR fun m => .exI fun a => .exI fun e' => .exI fun p' => .exI fun d' => .call f_waferref05_Reader_Take [.ptr 0 0, vS w] .none (qH L z k e p) ⟨.ret (vB b), .none, [hp5 m a e' p' d']⟩ (.branch b (t b m a e' p' d') (f b m a e' p' d'))).wp Pg cfg0 evp QD QR :=
  ⟨false, _, _, _, _, _, b_rTake L z k e p w he, fun h => (by cases h), fun _ => h2⟩
theorem wq_pat {F : Res Pat} {k1 : Int → ByteArray → List (List AV) → Int → List (List AV) → List (List AV) → Int → Int → Int → Int → KT} (c : QC patV shPat F L z g args H)
    (hok : ∀ t k, F = .ok t (L.drop k) → k ≤ L.length → (k1 (patK t) (patN t) (patP t) (patM t) (patQ t) (tks L) z k (0 : Nat) (0 : Nat)).wp Pg cfg0 evp QD QR)
    (hno : ∀ (e p k : Nat) i n a m b, F = .no e p → e ≠ 0 → (k1 i n a m b (tks L) z k e p).wp Pg cfg0 evp QD QR) :
    (KT.exI fun i => .exS fun s => .exR fun l1 => .exI fun i1 => .exR fun l2 => .exR fun m => .exI fun a => .exI fun e => .exI fun p => .exI fun d' => .call g args .none H ⟨.ret (.agg [vI i, vS s, .slice 1 l1 .no, vI i1, .slice 5 l2 .no]), .none, [hp5 m a e p d']⟩ (k1 i s l1 i1 l2 m a e p d')).wp Pg cfg0 evp QD QR := by
  obtain ⟨r, h1, h2⟩ := c
  cases hF : F with
  | ok t l =>
    rw [hF] at h2
    obtain ⟨k, rfl, hk, rfl⟩ := h2
    simp only [patV, pat_row] at h1
    exact ⟨_, _, _, _, _, _, _, _, _, _, h1, hok t k hF hk⟩
  | no e p =>
    rw [hF] at h2
    obtain ⟨he, k, x, ⟨i, n, a, m, b, rfl⟩, rfl⟩ := h2
    exact ⟨_, _, _, _, _, _, _, _, _, _, h1, hno e p k i n a m b hF he⟩
end
theorem c_rbeginsPat (L : List Tok) (z k : Nat) : evp f_waferref05_Reader_beginsPat [.ptr 0 0] .none (qH L z k 0 0) = some ⟨.ret (vB (begP (L.drop k))), .none, qH L z k 0 0⟩ := by
  refine kt5_is (wp_eq2 (X_rbeginsPat_eq ..) ?_)
  refine ⟨_, c_rIs L z k _, wp_if2 (fun h1 => ⟨rfl, retH (congrArg vB ?_)⟩) fun h1 => ⟨_, c_rIs L z k _, wp_if2 (fun h2 => ⟨rfl, retH (congrArg vB ?_)⟩) fun h2 => ⟨_, c_rIs L z k _, wp_if2 (fun h3 => ⟨rfl, retH (congrArg vB ?_)⟩) fun h3 => ⟨_, c_rIs L z k _, wp_if2 (fun h4 => ⟨rfl, retH (congrArg vB ?_)⟩) fun h4 => ⟨_, c_rkind L z k 1, wp_if2 (fun h5 => ⟨rfl, retH (congrArg vB ?_)⟩) fun h5 => ⟨_, c_rkind L z k 2, wp_if2 (fun h6 => ⟨rfl, retH (congrArg vB ?_)⟩) fun h6 => ⟨_, c_rkind L z k 4, ⟨rfl, retH (congrArg vB ?_)⟩⟩⟩⟩⟩⟩⟩⟩
  · have h1 : isW wAny (L.drop k) = true := h1
    simp [begP, h1]
  · have h2 : isW wTrue (L.drop k) = true := h2
    simp [begP, h2]
  · have h3 : isW wFalse (L.drop k) = true := h3
    simp [begP, h3]
  · have h4 : isW wOpen (L.drop k) = true := h4
    simp [begP, h4]
  · simp [begP, h5]
  · simp [begP, h6]
  · have h1 : isW wAny (L.drop k) = false := h1
    have h2 : isW wTrue (L.drop k) = false := h2
    have h3 : isW wFalse (L.drop k) = false := h3
    have h4 : isW wOpen (L.drop k) = false := h4
    simp [begP, h1, h2, h3, h4, h5, h6]
theorem b_rbeginsPat (L : List Tok) (z k e p : Nat) (he : e ≠ 0) : evp f_waferref05_Reader_beginsPat [.ptr 0 0] .none (qH L z k e p) = some ⟨.ret (vB false), .none, qH L z k e p⟩ :=
  kt5_is (wp_eq2 (X_rbeginsPat_eq ..) ⟨_, b_rIs L z k e p _ he, wp_if2 nf fun _ => ⟨_, b_rIs L z k e p _ he, wp_if2 nf fun _ => ⟨_, b_rIs L z k e p _ he, wp_if2 nf fun _ => ⟨_, b_rIs L z k e p _ he, wp_if2 nf fun _ => ⟨_, b_rkind L z k e p 1 he, wp_if2 nf fun _ => ⟨_, b_rkind L z k e p 2 he, wp_if2 nf fun _ => ⟨_, b_rkind L z k e p 4 he, ⟨rfl, rfl⟩⟩⟩⟩⟩⟩⟩⟩)
/-- The patterns' rules of the document's reader, by fuel. -/
structure QP (L : List Tok) (z n : Nat) : Prop where
  pat : ∀ {k : Nat}, k ≤ L.length → 8 * (L.length - k) + 2 ≤ n → QC patV shPat (pPat z n (L.drop k)) L z f_waferref05_Reader_pat [.ptr 0 0] (qH L z k 0 0)
  ap : ∀ {k : Nat}, k ≤ L.length → 8 * (L.length - k) + 1 ≤ n → QC patV shPat (pAp z n (L.drop k)) L z f_waferref05_Reader_atomPat [.ptr 0 0] (qH L z k 0 0)
theorem QP.Pat {L : List Tok} {z n : Nat} (h : QP L z n) {k : Nat} (hk : k ≤ L.length) (hn : 8 * (L.length - k) + 2 ≤ n) : QC patV shPat (pPat z n (L.drop k)) L z f_waferref05_Reader_Pat [.ptr 0 0] (qH L z k 0 0) :=
  qc_of (wp_eq2 (X_rPat_eq ..) (wq_pat (h.pat hk hn) (fun t j hF hj => wp_if2 (fun h => absurd h (by decide)) (fun _ => ⟨rfl, qq_ok (a := t) (k := j) hF rfl hj (patV_eq t)⟩)) (fun e p j i m a v b hF he => wp_if2 (fun _ => ⟨rfl, qq_no hF he ⟨_, _, _, _, _, rfl⟩⟩) (fun h => by rw [ne0i he] at h; cases h))))
theorem qp_all {L : List Tok} (z : Nat) (hg : Gd L) (hL : L.length ≤ 100000) : ∀ n, QP L z n := by
  have hLB : L.length < BIG := by unfold BIG; omega
  intro n
  induction n with
  | zero => exact ⟨fun _ h => by omega, fun _ h => by omega⟩
  | succ n I =>
  constructor
  · -- pat
    intro k hk hn
    generalize hX : pPat z (n + 1) (L.drop k) = X
    rw [pPat] at hX
    refine qc_of (wp_eq2 (X_rpat_eq ..) ⟨_, c_rkind L z k 2, wp_if2 (fun h2 => ?_) (fun h2 => ?_)⟩)
    · have h2' : ofK 2 (L.drop k) = false := by rw [Bool.not_eq_true'] at h2; exact h2
      rw [if_neg (by rw [h2']; decide)] at hX
      exact wq_pat (I.ap hk (by omega)) (fun t j hF hj => ⟨rfl, qq_ok (a := t) (k := j) (l := L.drop j) (by rw [← hX, hF]) rfl hj (patV_eq t)⟩) (fun e p j i m a v b hF he => ⟨rfl, qq_no (by rw [← hX, hF]) he ⟨_, _, _, _, _, rfl⟩⟩)
    · have h2' : ofK 2 (L.drop k) = true := by rw [Bool.not_eq_false'] at h2; exact h2
      rw [if_pos h2'] at hX
      have e : ∀ y : Res (List T × Bool), (y.bind fun x r => if begP r then (pAp z n r).bind fun a r => .ok (.conA x.1 a) r else .ok (Pat.con x.1) r) = (y.bind fun x r => .ok x.1 r).bind fun p r => if begP r then (pAp z n r).bind fun a r => .ok (.conA p a) r else .ok (.con p) r := by
        intro y; cases y <;> rfl
      rw [e] at hX
      refine wq_strs (v := fun x : List T => x) (c_rPath (lo := false) hg hL hk) (fun x j hF hj => ?_) (fun e p j l hF he => ⟨_, b_rbeginsPat L z j e p he, wp_if2 nf fun _ => ⟨rfl, qq_no (by simp only [Bool.not_false] at hF; rw [← hX, hF]; rfl) he ⟨_, _, _, _, _, rfl⟩⟩⟩)
      simp only [Bool.not_false] at hF
      have hl : (L.drop j).length < (L.drop k).length := by
        cases hp : path z false true (pl z (L.drop k)) [] (L.drop k) with
        | ok x' r' => rw [hp] at hF; injection hF with e1 e2; subst e2; exact path_len _ (Nat.le_refl _) hp
        | no e p => rw [hp] at hF; cases hF
      have hkj := dlen hk hj hl
      rw [hF] at hX
      simp only [Res.bind] at hX
      refine ⟨_, c_rbeginsPat L z j, wp_if2 (fun hb => ?_) (fun hb => ⟨rfl, qq_ok (a := .con x) (k := j) (l := L.drop j) (by rw [← hX, if_neg (by rw [hb]; decide)]) rfl hj (by rw [← patV_eq]; rfl)⟩)⟩
      rw [if_pos hb] at hX
      refine wq_pat (I.ap hj (by omega)) (fun t j2 hF2 hj2 => ⟨rfl, qq_ok (a := .conA x t) (k := j2) (l := L.drop j2) (by rw [← hX, hF2]) rfl hj2 ?_⟩) (fun e p j2 i m a v b hF2 he => ⟨rfl, qq_no (by rw [← hX, hF2]) he ⟨_, _, _, _, _, rfl⟩⟩)
      rw [← patV_eq (.conA x t), show patQ (.conA x t) = [avs t.row] from rfl, pat_row t]; rfl
  · -- atomPat
    intro k hk hn
    generalize hX : pAp z (n + 1) (L.drop k) = X
    rw [pAp] at hX
    refine qc_of (wp_eq2 (X_ratomPat_eq ..) ?_)
    refine wq_takeB hLB hk (fun hw hd hj1 => ⟨rfl, qq_ok (a := .any) (k := k + 1) (l := (L.drop k).tail) (by rw [← hX]; exact if_pos hw) hd hj1 rfl⟩) (fun hw1 => ?_)
    have hw1 : isW wAny (L.drop k) = false := hw1
    rw [if_neg (by rw [hw1]; decide)] at hX
    refine wq_takeB hLB hk (fun hw hd hj1 => ⟨rfl, qq_ok (a := .tru) (k := k + 1) (l := (L.drop k).tail) (by rw [← hX]; exact if_pos hw) hd hj1 rfl⟩) (fun hw2 => ?_)
    have hw2 : isW wTrue (L.drop k) = false := hw2
    rw [if_neg (by rw [hw2]; decide)] at hX
    refine wq_takeB hLB hk (fun hw hd hj1 => ⟨rfl, qq_ok (a := .fls) (k := k + 1) (l := (L.drop k).tail) (by rw [← hX]; exact if_pos hw) hd hj1 rfl⟩) (fun hw3 => ?_)
    have hw3 : isW wFalse (L.drop k) = false := hw3
    rw [if_neg (by rw [hw3]; decide)] at hX
    refine wp_boolB (c_rkind L z k 4) (fun h4 => ?_) (fun h4 => ?_)
    · rw [if_pos h4] at hX
      cases hD : L.drop k with
      | nil => rw [hD] at h4; cases h4
      | cons t r =>
        obtain ⟨d1, d2, d3⟩ := dropc hD
        rw [hD] at hX
        rw [wrapUD (by omega), wrapU (by omega)]
        exact ⟨_, _, _, _, rowk d2, rfl, qq_ok (a := .int (num (t :: r))) (k := k + 1) (l := r) (by rw [← hX]; rfl) d3 d1 rfl⟩
    rw [if_neg (by rw [h4]; decide)] at hX
    refine wp_boolB (c_rkind L z k 1) (fun h5 => ?_) (fun h5 => ?_)
    · rw [if_pos h5] at hX
      have htk : taken z 1 (L.drop k) = .ok (txt (L.drop k)) (L.drop k).tail := by
        cases hD : L.drop k with
        | nil => rw [hD] at h5; cases h5
        | cons t r =>
          rw [hD] at h5
          have hk : (t.kind == 1) = true := h5
          simp only [taken, hk, if_true]; rfl
      refine wq_str (c_rname (j := 1) hLB hk) (fun u j hF hj => ?_) (fun e p j l hF he => by rw [htk] at hF; cases hF)
      rw [htk] at hF
      injection hF with e1 e2
      subst e1
      exact ⟨rfl, rfl, qq_ok (a := .var (txt (L.drop k))) (k := j) (l := (L.drop k).tail) hX.symm e2.symm hj rfl⟩
    rw [if_neg (by rw [h5]; decide)] at hX
    have e : ∀ y : Res (List T × Bool), (y.bind fun x r => .ok (Pat.con x.1) r) = (y.bind fun x r => .ok x.1 r).bind fun p r => .ok (.con p) r := by
      intro y; cases y <;> rfl
    refine wp_boolB (c_rkind L z k 2) (fun h6 => ?_) (fun h6 => ?_)
    · rw [if_pos h6, e] at hX
      exact wq_strs (v := fun x : List T => x) (c_rPath (lo := false) hg hL hk) (fun x j hF hj => ⟨rfl, qq_ok (a := .con x) (k := j) (l := L.drop j) (by simp only [Bool.not_false] at hF; rw [← hX, hF]; rfl) rfl hj (by rw [← patV_eq]; rfl)⟩)
        (fun e p j l hF he => ⟨rfl, qq_no (by simp only [Bool.not_false] at hF; rw [← hX, hF]; rfl) he ⟨_, _, _, _, _, rfl⟩⟩)
    rw [if_neg (by rw [h6]; decide)] at hX
    refine wq_unit (c_rNeed hLB hk) (fun u j hF hj => ?_) (fun e p j hF he => wb_takeB he (wp_if2 (fun _ => ⟨rfl, qq_no (by have hF' : need z wOpen (L.drop k) = .no e p := hF; rw [← hX, hF']; rfl) he ⟨_, _, _, _, _, rfl⟩⟩) (fun h => by rw [ne0i he] at h; cases h)))
    have hF' : need z wOpen (L.drop k) = .ok u (L.drop j) := hF
    have hkj := dlen hk hj (need_len hF')
    rw [hF'] at hX
    simp only [Res.bind] at hX
    refine wq_takeB hLB hj (fun hw hd hj1 => ⟨rfl, qq_ok (a := .unit) (k := j + 1) (l := (L.drop j).tail) (by rw [← hX]; exact if_pos hw) hd hj1 rfl⟩) (fun hw4 => ?_)
    have hw4 : isW wClose (L.drop j) = false := hw4
    rw [if_neg (by rw [hw4]; decide)] at hX
    refine wp_if2 (fun h => absurd h (by decide)) (fun _ => ?_)
    refine wq_pat (I.pat hj (by omega)) (fun p j1 hF1 hj1 => wp_stage ?_) (fun e p j1 i m a v b hF1 he => wp_stage (wb_takeB he (wp_done (wp_eq2 (X_ratomPats1_eq ..) (wb_unit b_rNeed he ⟨rfl, qq_no (by rw [← hX, hF1]) he ⟨_, _, _, _, _, by rw [norm_ss, norm_sp]⟩⟩)))))
    rw [hF1] at hX
    simp only at hX
    have hjj := dlen hj hj1 ((lenP z n).pat _ _ hF1)
    refine wq_takeB hLB hj1 (fun hw hd hj2 => ?_) (fun hw => ?_)
    · have hw5 : isW wComma (L.drop j1) = true := hw
      rw [if_pos hw5, ← hd] at hX
      refine wq_pat (I.pat hj2 (by omega)) (fun q j3 hF2 hj3 => wp_done (wp_eq2 (X_ratomPats1_eq ..) ?_)) (fun e p j3 i m a v b hF2 he => wp_done (wp_eq2 (X_ratomPats1_eq ..) (wb_unit b_rNeed he ⟨rfl, qq_no (by rw [← hX, hF2]) he ⟨_, _, _, _, _, by rw [norm_ss0, norm_sp2]⟩⟩)))
      rw [hF2] at hX
      simp only at hX
      refine wq_unit (c_rNeed hLB hj3) (fun u2 j4 hF3 hj4 => ⟨rfl, qq_ok (a := .pair p q) (k := j4) (l := L.drop j4) ?_ rfl hj4 ?_⟩) (fun e p j4 hF3 he => ⟨rfl, qq_no ?_ he ⟨_, _, _, _, _, by rw [norm_ss0, norm_sp2]⟩⟩)
      · have hF3' : need z wClose (L.drop j3) = .ok u2 (L.drop j4) := hF3
        rw [← hX, hF3']
      · rw [norm_ss0, norm_sp2, ← patV_eq (.pair p q), show patQ (.pair p q) = [avs p.row, avs q.row] from rfl, pat_row p, pat_row q]; rfl
      · have hF3' : need z wClose (L.drop j3) = .no e p := hF3
        rw [← hX, hF3']
    · have hw5 : isW wComma (L.drop j1) = false := hw
      rw [if_neg (by rw [hw5]; decide)] at hX
      refine wp_done (wp_eq2 (X_ratomPats1_eq ..) (wq_unit (c_rNeed hLB hj1) (fun u2 j4 hF3 hj4 => ⟨rfl, qq_ok (a := p) (k := j4) (l := L.drop j4) ?_ rfl hj4 ?_⟩) (fun e p j4 hF3 he => ⟨rfl, qq_no ?_ he ⟨_, _, _, _, _, by rw [norm_ss, norm_sp]⟩⟩)))
      · have hF3' : need z wClose (L.drop j1) = .ok u2 (L.drop j4) := hF3
        rw [← hX, hF3']
      · rw [norm_ss, norm_sp, ← patV_eq p]
      · have hF3' : need z wClose (L.drop j1) = .no e p := hF3
        rw [← hX, hF3']
end Go.Proofs
end

section
/- PARSE: what a text is as a pattern: the program's and the document's answer; the law ParsePats -/
set_option linter.unusedVariables false
set_option linter.unusedSimpArgs false
set_option maxRecDepth 100000
open Go Go.Eng Go.Pa
open Go.Lx (T Tok)
namespace Go.Proofs
/-- What a text is as a pattern. -/
def patW (s : ByteArray) : Except (Nat × Nat) Pat :=
  match lexA s with
  | .error x => .error x
  | .ok ts => match whole s.size (pPat s.size (8 * ts.length + 7) ts) with
    | .error x => .error x
    | .ok t => if 100 < t.dep then .error (0, 4) else .ok t
def patAns : Except (Nat × Nat) Pat → AV
  | .error (p, e) => .tuple [pat0, vI p, vI e]
  | .ok t => .tuple [patV t, vI 0, vI 0]
theorem c_RightPatH {t : Pat} (ho : t.Ok) (hc : t.cnt < 1000000) {K : Heap} (hk : lowss K.length K = true) : ∃ e : Int, evp f_tree_RightPat [patV t] .none K = some ⟨.ret (vI e), .none, K⟩ ∧ (e = 4 ↔ 100 < t.dep) := by
  obtain ⟨e, h, h4⟩ := c_RightPat ho hc
  exact ⟨e, ev_lift0 gx_ren h (map_ren _ _) rfl hk, h4⟩
theorem r4RightPatH {t : Pat} (ho : t.Ok) (hc : t.cnt < SM) {K : Heap} (hk : lowss K.length K = true) : ∃ e : Int, evp f_waferref04_RightPat [patV t] .none K = some ⟨.ret (vI e), .none, K⟩ ∧ (e = 4 ↔ 100 < t.dep) := by
  obtain ⟨e, h, h4⟩ := r4RightPat ho hc
  exact ⟨e, ev_lift0 gx_ren h (map_ren _ _) rfl hk, h4⟩
theorem patW_facts {s : ByteArray} {ts : List Tok} (h : lexA s = .ok ts) {t : Pat} {l : List Tok} (hF : pPat s.size (8 * ts.length + 7) ts = .ok t l) : t.Ok ∧ t.cnt < 1000000 := by
  obtain ⟨h1, h2, h3, h4⟩ := lexA_facts h
  obtain ⟨q1, q2, q3⟩ := (wtP s.size (8 * ts.length + 7)).pat h3 t l hF
  exact ⟨q1, by omega⟩
theorem c_PatS (s : ByteArray) : evp f_parsecore_Pat [vS s] .none [] = some ⟨.ret (patAns (patW s)), .none, []⟩ := by
  refine ktc7_is (wp_eqp (X_Pat_eq ..) (wp_Lex (fun ts hts => ?_) (fun p e he => ?_)))
  · obtain ⟨hs, hg, h4, hl⟩ := lexA_facts hts
    refine wp_if2 nf (fun _ => ?_)
    obtain ⟨r, c, hr⟩ := (pp_all s.size (8 * ts.length + 7)).Pat (l := ts) (d := 0) hg (by omega) (by unfold BIG; omega)
    cases hF : pPat s.size (8 * ts.length + 7) ts with
    | ok t l =>
      rw [hF] at hr
      obtain ⟨hgl, rfl⟩ := hr
      obtain ⟨ho, hc⟩ := patW_facts hts hF
      obtain ⟨e, cR, he4⟩ := c_RightPatH ho hc (K := [hp5 (tks l) s.size 0 0 0]) low_hp
      rw [← patV_eq] at cR c
      refine .inl ⟨_, _, _, _, _, _, _, _, _, _, c, wp_if2 nf fun _ => ?_⟩
      cases l with
      | cons u l =>
        refine wp_if2 (fun _ => ⟨_, _, _, _, ⟨Int.le_refl _, rfl⟩, ?_⟩) (fun h => absurd (of_decide_eq_false h) (by simp))
        simp only [patW, hts, hF, whole, patAns]; rfl
      | nil =>
        refine wp_if2 (fun h => absurd (of_decide_eq_true h) (by simp)) (fun _ => ⟨_, cR, wp_if2 (fun h => ?_) (fun h => ⟨(low_pat 0 t).1, (low_pat 0 t).2, (low_pat 0 t).1, (low_pat 0 t).2, ?_⟩)⟩)
        · simp only [patW, hts, hF, whole, if_pos (he4.1 (eq_of_beq h)), patAns]; rfl
        · rw [beq_eq_false_iff_ne] at h
          simp only [patW, hts, hF, whole, if_neg (fun hd => h (he4.2 hd)), patAns, ← patV_eq]; rfl
    | no e p =>
      rw [hF] at hr
      obtain ⟨he, l, rfl⟩ := hr
      rw [if_pos rfl] at c
      refine .inl ⟨_, _, _, _, _, _, _, _, _, _, c, wp_if2 (fun _ => ⟨ne0 he, ?_⟩) (fun h => by rw [ne0 he] at h; cases h)⟩
      simp only [patW, hts, hF, whole, patAns]; rfl
  · have hne := (lexA_err he).1
    refine wp_if2 (fun _ => ⟨ne0 hne, ?_⟩) (fun h => by rw [ne0 hne] at h; cases h)
    simp only [patW, he, patAns]; rfl
theorem c_rPatS (s : ByteArray) : evp f_waferref05_Pat [vS s] .none [] = some ⟨.ret (patAns (patW s)), .none, []⟩ := by
  refine ktc7_is (wp_eqp (X_rPatS_eq ..) (wp_rLex (fun ts hts => ?_) (fun p e he => ?_)))
  · obtain ⟨hs, hg, h4, hl⟩ := lexA_facts hts
    refine wp_if2 nf (fun _ => ?_)
    obtain ⟨r, c, hr⟩ := (qp_all s.size hg (by omega) (8 * ts.length + 7)).Pat (k := 0) (Nat.zero_le _) (by omega)
    rw [List.drop_zero] at hr
    cases hF : pPat s.size (8 * ts.length + 7) ts with
    | ok t l =>
      rw [hF] at hr
      obtain ⟨k, hd, hkl, rfl⟩ := hr
      obtain ⟨ho, hc⟩ := patW_facts hts hF
      obtain ⟨e, cR, he4⟩ := r4RightPatH ho (by unfold SM; omega) (K := qH ts s.size k 0 0) low_hp
      rw [← patV_eq] at cR c
      refine ⟨_, _, _, _, _, _, _, _, _, _, c, wp_if2 nf fun _ => ?_⟩
      cases l with
      | cons u l =>
        refine wp_if2 (fun h => ⟨h, _, _, _, _, rowk (dropc hd).2.1, wp_stage (wp_done (wp_eqp (X_rPatSs2_eq ..) ?_))⟩) (not_lt hd)
        simp only [patW, hts, hF, whole, patAns]; rfl
      | nil =>
        refine wp_if2 (lt_len hd) (fun _ => wp_stage ⟨_, cR, wp_if2 (fun h => wp_done (wp_eqp (X_rPatSs3_eq ..) (wp_if2 (fun _ => ?_) (fun h => absurd h (by decide))))) (fun h => wp_done (wp_eqp (X_rPatSs3_eq ..) (wp_if2 (fun h => absurd h (by decide)) (fun _ => ⟨(low_pat 0 t).1, (low_pat 0 t).2, ?_⟩))))⟩)
        · simp only [patW, hts, hF, whole, if_pos (he4.1 (eq_of_beq h)), patAns]; rfl
        · rw [beq_eq_false_iff_ne] at h
          simp only [patW, hts, hF, whole, if_neg (fun hd => h (he4.2 hd)), patAns, ← patV_eq]; rfl
    | no e p =>
      rw [hF] at hr
      obtain ⟨he, k, x, ⟨i, n, a, m, b, rfl⟩, rfl⟩ := hr
      refine ⟨_, _, _, _, _, _, _, _, _, _, c, wp_if2 (fun _ => wp_stage (wp_if2 (fun h => by rw [eq0i he] at h; cases h) (fun _ => wp_done (wp_eqp (X_rPatSs1_eq ..) (wp_if2 (fun _ => ?_) (fun h => by rw [ne0 he] at h; cases h)))))) (fun h => by rw [ne0 he] at h; cases h)⟩
      simp only [patW, hts, hF, whole, patAns]; rfl
  · have hne := (lexA_err he).1
    refine wp_if2 (fun _ => ⟨ne0 hne, ?_⟩) (fun h => by rw [ne0 hne] at h; cases h)
    simp only [patW, he, patAns]; rfl
theorem r4SameP0 : evp f_waferref04_SamePat [pat0, pat0] .none [] = some ⟨.ret (vB true), .none, []⟩ := ac 60 (by kernel_rfl)
theorem patW_ok {s : ByteArray} {t : Pat} (h : patW s = .ok t) : t.Ok := by
  unfold patW at h
  cases hl : lexA s with
  | error x => rw [hl] at h; cases h
  | ok ts =>
    rw [hl] at h
    simp only at h
    cases hF : pPat s.size (8 * ts.length + 7) ts with
    | no e p => rw [hF] at h; cases h
    | ok u l =>
      rw [hF] at h
      cases l with
      | cons a l => cases h
      | nil =>
        simp only [whole] at h
        split at h
        · cases h
        · injection h with h; subst h
          exact (patW_facts hl hF).1
theorem law_ParsePats (s : ByteArray) : evp f_waferlaw05_ParsePats [vS s] .none [] = some ⟨.ret (vB true), .none, []⟩ := by
  have h1 := c_PatS s
  have h2 := c_rPatS s
  refine ktc7_is (wp_eqp (X_ParsePats_eq ..) ?_)
  cases hw : patW s with
  | error x =>
    obtain ⟨p, e⟩ := x
    rw [hw] at h1 h2
    exact ⟨_, _, _, _, _, _, _, h1, _, _, _, _, _, _, _, h2, wp_if2 (fun _ => wp_if2 (fun _ => ⟨_, r4SameP0, wp_if2 (fun _ => ⟨_, alive5, rfl⟩) (fun h => by cases h)⟩) (fun h => by simp at h)) (fun h => by simp at h)⟩
  | ok t =>
    rw [hw] at h1 h2
    have h3 := r4SamePat (patW_ok hw)
    simp only [patAns, patV, pat_row] at h1 h2
    rw [← patV_eq] at h3
    exact ⟨_, _, _, _, _, _, _, h1, _, _, _, _, _, _, _, h2, wp_if2 (fun _ => wp_if2 (fun _ => ⟨_, h3, wp_if2 (fun _ => ⟨_, alive5, rfl⟩) (fun h => by cases h)⟩) (fun h => by simp at h)) (fun h => by simp at h)⟩
end Go.Proofs
end
