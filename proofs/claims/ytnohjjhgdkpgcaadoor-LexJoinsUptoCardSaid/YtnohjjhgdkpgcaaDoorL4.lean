/- LEX: what the program's functions answer, part 4: Same, Join; aids for the laws -/
import Derived.Test.YtnohjjhgdkpgcaaDoorL3
import Derived.Test.YtnohjjhgdkpgcaaDoorXL3
open Go Go.Eng Go.Lx
namespace Go.Proofs
set_option linter.unusedVariables false
set_option linter.unusedSimpArgs false
set_option maxRecDepth 100000

theorem alive3 : evp f_waferlaw03_alive [] .none [] = some ⟨.ret (vB true), .none, []⟩ := ac 100 (by kernel_rfl)
section
variable {QD : List (St → Prop)} {QR : CRes → Prop}
theorem wp_alive {k : Bool → KT} (hk : (k true).wp Pg cfg0 evp QD QR) : (KT.exB fun b => .call f_waferlaw03_alive [] .none [] ⟨.ret (vB b), .none, []⟩ (k b)).wp Pg cfg0 evp QD QR := ⟨true, alive3, hk⟩
theorem wp_trow {l : List (List AV)} {k : Nat} {t : Tok} {K : Int → ByteArray → Int → Int → KT} (h : l[k]? = some (tokRow t)) (hk : (K t.kind ⟨t.text.toArray⟩ t.n t.at_).wp Pg cfg0 evp QD QR) :
    (KT.exI fun i => .exS fun s => .exI fun j => .exI fun m => .row l (k : Int) [vI i, vS s, vI j, vI m] (K i s j m)).wp Pg cfg0 evp QD QR :=
  ⟨_, _, _, _, ⟨Int.natCast_nonneg k, by rw [Int.toNat_natCast]; exact h⟩, hk⟩
theorem wp_Lex {s : ByteArray} {K : List (List AV) → Int → Int → KT} (hok : ∀ ts, lexA s = .ok ts → (K (ts.map tokRow) 0 0).wp Pg cfg0 evp QD QR) (herr : ∀ p e, lexA s = .error (p, e) → (K [] p e).wp Pg cfg0 evp QD QR) :
    (KT.exR fun l => .exI fun i => .exI fun i1 => .call f_lex_Lex [vS s] .none [] ⟨.ret (.tuple [.slice 4 l .no, vI i, vI i1]), .none, []⟩ (K l i i1)).wp Pg cfg0 evp QD QR := by
  have h := c_Lex s
  cases hx : lexA s with
  | ok ts => rw [hx] at h; exact ⟨_, _, _, h, hok ts hx⟩
  | error e => obtain ⟨p, e⟩ := e; rw [hx] at h; exact ⟨_, _, _, h, herr p e hx⟩
end

/-! ### Same -/
theorem tok_text (t : T) : tx ⟨t.toArray⟩ = t := by simp [tx]
def sameB (l m : List Tok) : Bool := decide (l.map key = m.map key)
theorem y_Same (l m : List (List AV)) : (X_Same l m).F = Y_Same l m := by delta Y_Same X_Same; rfl
theorem key_eq (t u : Tok) : key t = key u ↔ t.kind = u.kind ∧ t.text = u.text ∧ t.n = u.n := by simp [key]
theorem c_Same {l m : List Tok} (hl : l.length < BIG) (hm : m.length < BIG) : evp f_lex_Same [.slice 4 (l.map tokRow) .no, .slice 4 (m.map tokRow) .no] .none [] = some ⟨.ret (vB (sameB l m)), .none, []⟩ := by
  refine kt3_ev (wp_eq2 (X_Same_eq _ _) (wp_if2 (fun h => ?_) (fun h => ?_)))
  · have h : ¬ ((l.map tokRow).length : Int) = ((m.map tokRow).length : Int) := by simpa using h
    refine ⟨rfl, rfl, ret_eq (congrArg vB ?_)⟩
    symm
    unfold sameB
    rw [decide_eq_false_iff_not]
    intro e
    have := congrArg List.length e
    simp at this h; omega
  have h : ((l.map tokRow).length : Int) = ((m.map tokRow).length : Int) := by simpa using h
  have hlm : l.length = m.length := by rw [List.length_map, List.length_map] at h; omega
  refine wp_eq2 (y_Same _ _) (loop3 (fun i : Nat => ⟨tm2 32 [(1, (.slice 4 (m.map tokRow) .no)), (2, (.func (.func f_lex_Same_1) [] [])), (15, (.slice 4 (l.map tokRow) .no)), (16, (vI (((l.map tokRow).length : Int)))), (17, (vI i))], lm2 32 [], ⟨[], [], .none, 0⟩⟩)
    (fun i => i ≤ l.length ∧ (l.take i).map key = (m.take i).map key) (fun i => l.length - i) 0 (by kernel_rfl) ⟨Nat.zero_le _, rfl⟩ ?_)
  rintro i ⟨h1, h2⟩
  have hfail : ∀ (hi : i < l.length), ¬ key l[i] = key (m[i]'(by omega)) → sameB l m = false := by
    intro hi hne
    unfold sameB
    rw [decide_eq_false_iff_not]
    intro e
    have := congrArg (·[i]?) e
    simp [hi, (show i < m.length by omega)] at this
    exact hne this
  refine wp_eq2 (X_SameR_eq _ _ i) (wp_if2 (fun hi => ?_) (fun hi => ?_))
  · have hi := of_decide_eq_true hi
    rw [List.length_map] at hi
    have hi : i < l.length := by omega
    have hrl : (l.map tokRow)[i]? = some (tokRow l[i]) := by simp [hi]
    have hrm : (m.map tokRow)[i]? = some (tokRow (m[i]'(by omega))) := by simp [(show i < m.length by omega)]
    refine wp_trow hrl (wp_trow hrm (wp_if2 (fun hk => ?_) (fun hk => ?_)))
    · have hk : ((l[i]).kind : Int) = ((m[i]'(by omega)).kind : Int) := by simpa using hk
      refine wp_if2 (fun ht => ?_) (fun ht => ?_)
      · have ht : (l[i]).text = (m[i]'(by omega)).text := by rw [beq_tx, decide_eq_true_iff, tok_text, tok_text] at ht; exact ht
        refine ⟨rfl, wp_if2 (fun hn => ?_) (fun hn => ?_)⟩
        · have hn : ¬ ((l[i]).n : Int) = ((m[i]'(by omega)).n : Int) := by simpa using hn
          refine wp_out ⟨rfl, rfl, ret_eq (congrArg vB (hfail hi fun e => hn ?_).symm)⟩
          rw [((key_eq _ _).1 e).2.2]
        · have hn : ((l[i]).n : Int) = ((m[i]'(by omega)).n : Int) := by simpa using hn
          rw [kw_succ' (by omega)]
          refine wp_done ⟨i + 1, ⟨⟨by omega, ?_⟩, by omega⟩, rfl⟩
          rw [List.take_succ_eq_append_getElem hi, List.take_succ_eq_append_getElem (show i < m.length by omega), List.map_append, List.map_append, h2]
          congr 1
          simp only [List.map_cons, List.map_nil, List.cons.injEq, and_true]
          exact (key_eq _ _).2 ⟨by omega, ht, by omega⟩
      · have ht : ¬ (l[i]).text = (m[i]'(by omega)).text := by rw [beq_tx, decide_eq_false_iff_not, tok_text, tok_text] at ht; exact ht
        exact ⟨rfl, wp_out ⟨rfl, rfl, ret_eq (congrArg vB (hfail hi fun e => ht ((key_eq _ _).1 e).2.1).symm)⟩⟩
    · have hk : ¬ ((l[i]).kind : Int) = ((m[i]'(by omega)).kind : Int) := by simpa using hk
      exact ⟨rfl, wp_out ⟨rfl, rfl, ret_eq (congrArg vB (hfail hi fun e => hk (by rw [((key_eq _ _).1 e).1])).symm)⟩⟩
  · have hi := of_decide_eq_false hi
    rw [List.length_map] at hi
    have : i = l.length := by omega
    subst this
    rw [List.take_length, List.take_of_length_le (by omega)] at h2
    refine wp_out ⟨rfl, rfl, ret_eq (congrArg vB ?_)⟩
    symm
    unfold sameB
    rw [decide_eq_true_iff]; exact h2

/-! ### Join -/
def joinT (ts : List Tok) : T := Lib.join (ts.map (·.text)) [32]
def slJ : List Tok → AV
  | [] => .slice 0 [] .full
  | t :: ts => .slice 1 ([vS ⟨t.text.toArray⟩] :: ts.map fun t => [vS ⟨t.text.toArray⟩]) .yes
theorem slJ_snoc (ts : List Tok) (t : Tok) : slJ (ts ++ [t]) = .slice 1 (ts.map (fun t => [vS ⟨t.text.toArray⟩]) ++ [[vS ⟨t.text.toArray⟩]]) .yes := by
  cases ts with
  | nil => rfl
  | cons u us => simp [slJ]
theorem y_Join (l : List (List AV)) : kt3 f_lex_Join [.slice 4 l .no] [] = Y_Join l := by delta Y_Join; rfl
theorem strsOf_toks : ∀ ts : List Tok, strsOf (ts.map fun t => [vS ⟨t.text.toArray⟩]) = some (ts.map fun t => ⟨t.text.toArray⟩)
  | [] => rfl
  | t :: ts => by
    have := strsOf_toks ts
    simp only [List.map_cons, vS] at this ⊢
    rw [strsOf, this]; rfl
theorem c_JoinS {sz : Nat} {own : Own} {ts : List Tok} (h1 : ts.length ≤ 140737488355328) (h2 : (joinT ts).length ≤ 140737488355328) :
    evp f_strings_Join [.slice sz (ts.map fun t => [vS ⟨t.text.toArray⟩]) own, vS ⟨#[32]⟩] .none [] = some ⟨.ret (vS ⟨(joinT ts).toArray⟩), .none, []⟩ := by
  refine ev_ext (e := fun args H => (xJoin args).map fun v => (Out.ret v, H)) rfl ?_
  have e : (ts.map fun t => (⟨t.text.toArray⟩ : ByteArray)).map (·.data.toList) = ts.map (·.text) := by rw [List.map_map]; congr 1
  have e2 : (⟨#[32]⟩ : ByteArray).data.toList = [32] := rfl
  simp only [vS, xJoin]
  have := strsOf_toks ts
  simp only [vS] at this
  rw [this]
  simp only [e, e2]
  rw [if_pos ⟨by rw [List.length_map]; exact h1, h2⟩]
  rfl
theorem c_Join {ts : List Tok} (h1 : ts.length ≤ 2000000000) (h2 : (joinT ts).length ≤ 140737488355328) : evp f_lex_Join [.slice 4 (ts.map tokRow) .no] .none [] = some ⟨.ret (vS ⟨(joinT ts).toArray⟩), .none, []⟩ := by
  refine kt3_ev (wp_eq2 (y_Join _) (loop3 (fun i : Nat => ⟨tm2 20 [(3, slJ (ts.take i)), (6, (.slice 4 (ts.map tokRow) .no)), (7, (vI (((ts.map tokRow).length : Int)))), (8, (vI i))], lm2 20 [], ⟨[], [], .none, 0⟩⟩)
    (fun i => i ≤ ts.length) (fun i => ts.length - i) 0 (by kernel_rfl) (Nat.zero_le _) ?_))
  intro i hi
  have hn : ∀ (h : i < ts.length), slJ (ts.take (i + 1)) = .slice 1 ((ts.take i).map (fun t => [vS ⟨t.text.toArray⟩]) ++ [[vS ⟨(ts[i]).text.toArray⟩]]) .yes := fun h => by rw [List.take_succ_eq_append_getElem h, slJ_snoc]
  have hrow : ∀ (h : i < ts.length), (ts.map tokRow)[i]? = some (tokRow ts[i]) := fun h => by simp [h]
  have hend : ¬ i < ts.length → ts.take i = ts := fun h => List.take_of_length_le (by omega)
  cases hp : ts.take i with
  | nil =>
    have h0 : i = 0 ∨ ts = [] := by
      cases i with
      | zero => exact .inl rfl
      | succ i => cases ts with
        | nil => exact .inr rfl
        | cons t ts => simp at hp
    rw [show slJ [] = .slice 0 [] .full from rfl]
    refine wp_eq2 (X_JoinR0_eq _ i) (wp_if2 (fun h => ?_) (fun h => ?_))
    · have h := of_decide_eq_true h
      rw [List.length_map] at h
      have h : i < ts.length := by omega
      refine wp_trow (hrow h) ⟨rfl, ?_⟩
      rw [kw_succ (by omega)]
      refine wp_done ⟨i + 1, ⟨by omega, by omega⟩, ?_⟩
      rw [hn h, hp]; rfl
    · have h := of_decide_eq_false h
      rw [List.length_map] at h
      have hts : ts = [] := by rw [← hend (by omega)]; exact hp
      subst hts
      exact wp_out ⟨_, c_JoinS (ts := []) (by simp) h2, rfl, rfl⟩
  | cons u us =>
    rw [show slJ (u :: us) = .slice 1 ((u :: us).map fun t => [vS ⟨t.text.toArray⟩]) .yes from rfl]
    refine wp_eq2 (X_JoinR_eq _ _ i) (wp_if2 (fun h => ?_) (fun h => ?_))
    · have h := of_decide_eq_true h
      rw [List.length_map] at h
      have h : i < ts.length := by omega
      have hlen : (u :: us).length ≤ i := by rw [← hp, List.length_take]; omega
      refine wp_trow (hrow h) ⟨by rw [Nat.ble_eq]; simp at hlen ⊢; omega, ?_⟩
      rw [kw_succ (by omega)]
      refine wp_done ⟨i + 1, ⟨by omega, by omega⟩, ?_⟩
      rw [hn h, hp]; rfl
    · have h := of_decide_eq_false h
      rw [List.length_map] at h
      have hts := hend (by omega)
      rw [hp] at hts
      rw [hts]
      exact wp_out ⟨_, c_JoinS (by omega) h2, rfl, rfl⟩
end Go.Proofs
