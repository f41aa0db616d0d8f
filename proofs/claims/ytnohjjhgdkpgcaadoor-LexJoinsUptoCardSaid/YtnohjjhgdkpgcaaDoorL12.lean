/- LEX: the law LexJoins: tokens of whatever numbers -/
import Derived.Test.YtnohjjhgdkpgcaaDoorL4
import Derived.Test.YtnohjjhgdkpgcaaDoorXL5
open Go Go.Eng Go.Lx
namespace Go.Proofs
set_option linter.unusedVariables false
set_option linter.unusedSimpArgs false
set_option maxRecDepth 100000

structure GT where
  k : Int
  s : ByteArray
  n : Int
  a : Int
def rowG (g : GT) : List AV := [vI g.k, vS g.s, vI g.n, vI g.a]
def slG : List GT → AV
  | [] => .slice 0 [] .full
  | t :: ts => .slice 4 (rowG t :: ts.map rowG) .yes
theorem slG_snoc (ts : List GT) (t : GT) : slG (ts ++ [t]) = .slice 4 (ts.map rowG ++ [rowG t]) .yes := by
  cases ts with
  | nil => rfl
  | cons u us => simp [slG]
section
variable {QD : List (St → Prop)} {QR : CRes → Prop}
theorem wp_grow {l : List (List AV)} {k : Nat} {t : GT} {K : Int → ByteArray → Int → Int → KT} (h : l[k]? = some (rowG t)) (hk : (K t.k t.s t.n t.a).wp Pg cfg0 evp QD QR) :
    (KT.exI fun i => .exS fun s => .exI fun j => .exI fun m => .row l (k : Int) [vI i, vS s, vI j, vI m] (K i s j m)).wp Pg cfg0 evp QD QR :=
  ⟨_, _, _, _, ⟨Int.natCast_nonneg k, by rw [Int.toNat_natCast]; exact h⟩, hk⟩
end
theorem y_Own (l : List (List AV)) : kt3 f_waferlaw03_Own [.slice 4 l .no] [] = Y_Own l := by delta Y_Own; rfl
theorem c_Own {ts : List GT} (hl : ts.length ≤ 2000000000) : evp f_waferlaw03_Own [.slice 4 (ts.map rowG) .no] .none [] = some ⟨.ret (.slice 4 (ts.map rowG) .no), .none, []⟩ := by
  refine kt3_ev (wp_eq2 (y_Own _) (loop3 (fun i : Nat => ⟨tm2 36 [(0, (.slice 4 (ts.map rowG) .no)), (3, slG (ts.take i)), (4, (vI i))], lm2 36 [], ⟨[], [], .none, 0⟩⟩)
    (fun i => i ≤ ts.length) (fun i => ts.length - i) 0 (by kernel_rfl) (Nat.zero_le _) ?_))
  intro i hi
  have hn : ∀ (h : i < ts.length), slG (ts.take (i + 1)) = .slice 4 ((ts.take i).map rowG ++ [rowG ts[i]]) .yes := fun h => by rw [List.take_succ_eq_append_getElem h, slG_snoc]
  have hrow : ∀ (h : i < ts.length), (ts.map rowG)[i]? = some (rowG ts[i]) := fun h => by simp [h]
  have hend : ¬ i < ts.length → ts.take i = ts := fun h => List.take_of_length_le (by omega)
  cases hp : ts.take i with
  | nil =>
    rw [show slG [] = .slice 0 [] .full from rfl]
    refine wp_eq2 (X_OwnR0_eq _ i) (wp_if2 (fun h => ?_) (fun h => ?_))
    · have h := of_decide_eq_true h
      rw [List.length_map] at h
      have h : i < ts.length := by omega
      refine wp_grow (hrow h) (wp_grow (hrow h) (wp_grow (hrow h) (wp_grow (hrow h) ⟨rfl, ?_⟩)))
      rw [kw_succ (by omega)]
      refine wp_done ⟨i + 1, ⟨by omega, by omega⟩, ?_⟩
      rw [hn h, hp]; rfl
    · have h := of_decide_eq_false h
      rw [List.length_map] at h
      have hts : ts = [] := by rw [← hend (by omega)]; exact hp
      subst hts
      exact wp_out ⟨rfl, rfl⟩
  | cons u us =>
    rw [show slG (u :: us) = .slice 4 (rowG u :: us.map rowG) .yes from rfl]
    refine wp_eq2 (X_OwnR_eq _ _ i) (wp_if2 (fun h => ?_) (fun h => ?_))
    · have h := of_decide_eq_true h
      rw [List.length_map] at h
      have h : i < ts.length := by omega
      have hlen : (u :: us).length ≤ i := by rw [← hp, List.length_take]; omega
      refine wp_grow (hrow h) (wp_grow (hrow h) (wp_grow (hrow h) (wp_grow (hrow h) ⟨by rw [Nat.ble_eq]; simp at hlen ⊢; omega, ?_⟩)))
      rw [kw_succ (by omega)]
      refine wp_done ⟨i + 1, ⟨by omega, by omega⟩, ?_⟩
      rw [hn h, hp]; rfl
    · have h := of_decide_eq_false h
      rw [List.length_map] at h
      have hts := hend (by omega)
      rw [hp] at hts
      refine wp_out ⟨rfl, ret_eq ?_⟩
      rw [← hts]; rfl

/-! ### Same, of both -/
def keyG (t : GT) : Int × T × Int := (t.k, tx t.s, t.n)
def sameG (l m : List GT) : Bool := decide (l.map keyG = m.map keyG)
theorem keyG_eq (t u : GT) : keyG t = keyG u ↔ t.k = u.k ∧ tx t.s = tx u.s ∧ t.n = u.n := by simp [keyG]
theorem sameG_len {l m : List GT} (h : l.length ≠ m.length) : sameG l m = false := by
  unfold sameG
  rw [decide_eq_false_iff_not]
  intro e
  have := congrArg List.length e
  simp at this; omega
theorem sameG_at {l m : List GT} {i : Nat} (h1 : i < l.length) (h2 : i < m.length) (hne : ¬ keyG l[i] = keyG m[i]) : sameG l m = false := by
  unfold sameG
  rw [decide_eq_false_iff_not]
  intro e
  have := congrArg (·[i]?) e
  simp [h1, h2] at this
  exact hne this
theorem take_key {l m : List GT} {i : Nat} (h1 : i < l.length) (h2 : i < m.length) (h : (l.take i).map keyG = (m.take i).map keyG) (he : keyG l[i] = keyG m[i]) : (l.take (i + 1)).map keyG = (m.take (i + 1)).map keyG := by
  rw [List.take_succ_eq_append_getElem h1, List.take_succ_eq_append_getElem h2, List.map_append, List.map_append, h]
  simp [he]
theorem c_SameG {l m : List GT} (hl : l.length < BIG) (hm : m.length < BIG) : evp f_lex_Same [.slice 4 (l.map rowG) .no, .slice 4 (m.map rowG) .no] .none [] = some ⟨.ret (vB (sameG l m)), .none, []⟩ := by
  refine kt3_ev (wp_eq2 (X_Same_eq _ _) (wp_if2 (fun h => ?_) (fun h => ?_)))
  · have h : ¬ ((l.map rowG).length : Int) = ((m.map rowG).length : Int) := by simpa using h
    rw [List.length_map, List.length_map] at h
    exact ⟨rfl, rfl, ret_eq (congrArg vB (sameG_len (by omega)).symm)⟩
  have h : ((l.map rowG).length : Int) = ((m.map rowG).length : Int) := by simpa using h
  have hlm : l.length = m.length := by rw [List.length_map, List.length_map] at h; omega
  refine wp_eq2 (y_Same _ _) (loop3 (fun i : Nat => ⟨tm2 32 [(1, (.slice 4 (m.map rowG) .no)), (2, (.func (.func f_lex_Same_1) [] [])), (15, (.slice 4 (l.map rowG) .no)), (16, (vI (((l.map rowG).length : Int)))), (17, (vI i))], lm2 32 [], ⟨[], [], .none, 0⟩⟩)
    (fun i => i ≤ l.length ∧ (l.take i).map keyG = (m.take i).map keyG) (fun i => l.length - i) 0 (by kernel_rfl) ⟨Nat.zero_le _, rfl⟩ ?_)
  rintro i ⟨h1, h2⟩
  refine wp_eq2 (X_SameR_eq _ _ i) (wp_if2 (fun hi => ?_) (fun hi => ?_))
  · have hi := of_decide_eq_true hi
    rw [List.length_map] at hi
    have hi : i < l.length := by omega
    have hi2 : i < m.length := by omega
    have hrl : (l.map rowG)[i]? = some (rowG l[i]) := by simp [hi]
    have hrm : (m.map rowG)[i]? = some (rowG m[i]) := by simp [hi2]
    refine wp_grow hrl (wp_grow hrm (wp_if2 (fun hk => ?_) (fun hk => ?_)))
    · have hk : (l[i]).k = (m[i]).k := by simpa using hk
      refine wp_if2 (fun ht => ?_) (fun ht => ?_)
      · have ht : tx (l[i]).s = tx (m[i]).s := by rw [beq_tx, decide_eq_true_iff] at ht; exact ht
        refine ⟨rfl, wp_if2 (fun hn => ?_) (fun hn => ?_)⟩
        · have hn : ¬ (l[i]).n = (m[i]).n := by simpa using hn
          exact wp_out ⟨rfl, rfl, ret_eq (congrArg vB (sameG_at hi hi2 fun e => hn ((keyG_eq _ _).1 e).2.2).symm)⟩
        · have hn : (l[i]).n = (m[i]).n := by simpa using hn
          rw [kw_succ' (by omega)]
          exact wp_done ⟨i + 1, ⟨⟨by omega, take_key hi hi2 h2 ((keyG_eq _ _).2 ⟨hk, ht, hn⟩)⟩, by omega⟩, rfl⟩
      · have ht : ¬ tx (l[i]).s = tx (m[i]).s := by rw [beq_tx, decide_eq_false_iff_not] at ht; exact ht
        exact ⟨rfl, wp_out ⟨rfl, rfl, ret_eq (congrArg vB (sameG_at hi hi2 fun e => ht ((keyG_eq _ _).1 e).2.1).symm)⟩⟩
    · have hk : ¬ (l[i]).k = (m[i]).k := by simpa using hk
      exact ⟨rfl, wp_out ⟨rfl, rfl, ret_eq (congrArg vB (sameG_at hi hi2 fun e => hk ((keyG_eq _ _).1 e).1).symm)⟩⟩
  · have hi := of_decide_eq_false hi
    rw [List.length_map] at hi
    have : i = l.length := by omega
    subst this
    rw [List.take_length, List.take_of_length_le (by omega)] at h2
    refine wp_out ⟨rfl, rfl, ret_eq (congrArg vB ?_)⟩
    symm
    unfold sameG
    rw [decide_eq_true_iff]; exact h2
theorem y_rSame (l m : List (List AV)) : (X_rSame l m).F = Y_rSame l m := by delta Y_rSame X_rSame; rfl
theorem c_rSame {l m : List GT} (hl : l.length < BIG) (hm : m.length < BIG) : evp f_waferref03_Same [.slice 4 (l.map rowG) .no, .slice 4 (m.map rowG) .no] .none [] = some ⟨.ret (vB (sameG l m)), .none, []⟩ := by
  refine kt3_ev (wp_eq2 (X_rSame_eq _ _) (wp_if2 (fun h => ?_) (fun h => ?_)))
  · have h : ¬ ((l.map rowG).length : Int) = ((m.map rowG).length : Int) := by simpa using h
    rw [List.length_map, List.length_map] at h
    exact ⟨rfl, ret_eq (congrArg vB (sameG_len (by omega)).symm)⟩
  have h : ((l.map rowG).length : Int) = ((m.map rowG).length : Int) := by simpa using h
  have hlm : l.length = m.length := by rw [List.length_map, List.length_map] at h; omega
  refine wp_eq2 (y_rSame _ _) (loop3 (fun i : Nat => ⟨tm2 54 [(0, (.slice 4 (l.map rowG) .no)), (1, (.slice 4 (m.map rowG) .no)), (5, (vI i))], lm2 54 [], ⟨[], [], .none, 0⟩⟩)
    (fun i => i ≤ l.length ∧ (l.take i).map keyG = (m.take i).map keyG) (fun i => l.length - i) 0 (by kernel_rfl) ⟨Nat.zero_le _, rfl⟩ ?_)
  rintro i ⟨h1, h2⟩
  refine wp_eq2 (X_rSameR_eq _ _ i) (wp_if2 (fun hi => ?_) (fun hi => ?_))
  · have hi := of_decide_eq_true hi
    rw [List.length_map] at hi
    have hi : i < l.length := by omega
    have hi2 : i < m.length := by omega
    have hrl : (l.map rowG)[i]? = some (rowG l[i]) := by simp [hi]
    have hrm : (m.map rowG)[i]? = some (rowG m[i]) := by simp [hi2]
    refine wp_grow hrl (wp_grow hrm (wp_if2 (fun hk => ?_) (fun hk => ?_)))
    · have hk : ¬ (l[i]).k = (m[i]).k := by simpa using hk
      exact wp_out ⟨rfl, ret_eq (congrArg vB (sameG_at hi hi2 fun e => hk ((keyG_eq _ _).1 e).1).symm)⟩
    · have hk : (l[i]).k = (m[i]).k := by simpa using hk
      refine wp_grow hrl (wp_grow hrm (wp_if2 (fun ht => ?_) (fun ht => ?_)))
      · have ht : ¬ tx (l[i]).s = tx (m[i]).s := by rw [beq_tx] at ht; simpa using ht
        exact wp_out ⟨rfl, ret_eq (congrArg vB (sameG_at hi hi2 fun e => ht ((keyG_eq _ _).1 e).2.1).symm)⟩
      · have ht : tx (l[i]).s = tx (m[i]).s := by rw [beq_tx] at ht; simpa using ht
        refine wp_grow hrl (wp_grow hrm (wp_if2 (fun hn => ?_) (fun hn => ?_)))
        · have hn : ¬ (l[i]).n = (m[i]).n := by simpa using hn
          exact wp_out ⟨rfl, ret_eq (congrArg vB (sameG_at hi hi2 fun e => hn ((keyG_eq _ _).1 e).2.2).symm)⟩
        · have hn : (l[i]).n = (m[i]).n := by simpa using hn
          rw [kw_succ' (by omega)]
          exact wp_done ⟨i + 1, ⟨⟨by omega, take_key hi hi2 h2 ((keyG_eq _ _).2 ⟨hk, ht, hn⟩)⟩, by omega⟩, rfl⟩
  · have hi := of_decide_eq_false hi
    rw [List.length_map] at hi
    have : i = l.length := by omega
    subst this
    rw [List.take_length, List.take_of_length_le (by omega)] at h2
    refine wp_out ⟨rfl, ret_eq (congrArg vB ?_)⟩
    symm
    unfold sameG
    rw [decide_eq_true_iff]; exact h2

/-! ### Join, of the program -/
def joinG (ts : List GT) : T := Lib.join (ts.map fun t => tx t.s) [32]
def slJG : List GT → AV
  | [] => .slice 0 [] .full
  | t :: ts => .slice 1 ([vS t.s] :: ts.map fun t => [vS t.s]) .yes
theorem slJG_snoc (ts : List GT) (t : GT) : slJG (ts ++ [t]) = .slice 1 (ts.map (fun t => [vS t.s]) ++ [[vS t.s]]) .yes := by
  cases ts with
  | nil => rfl
  | cons u us => simp [slJG]
theorem strsOf_G : ∀ ts : List GT, strsOf (ts.map fun t => [vS t.s]) = some (ts.map fun t => t.s)
  | [] => rfl
  | t :: ts => by
    have := strsOf_G ts
    simp only [List.map_cons, vS] at this ⊢
    rw [strsOf, this]; rfl
theorem c_JoinSG {sz : Nat} {own : Own} {ts : List GT} (h1 : ts.length ≤ 140737488355328) (h2 : (joinG ts).length ≤ 140737488355328) :
    evp f_strings_Join [.slice sz (ts.map fun t => [vS t.s]) own, vS ⟨#[32]⟩] .none [] = some ⟨.ret (vS ⟨(joinG ts).toArray⟩), .none, []⟩ := by
  refine ev_ext (e := fun args H => (xJoin args).map fun v => (Out.ret v, H)) rfl ?_
  have e : (ts.map fun t => t.s).map (·.data.toList) = ts.map fun t => tx t.s := by rw [List.map_map]; congr 1
  have e2 : (⟨#[32]⟩ : ByteArray).data.toList = [32] := rfl
  simp only [vS, xJoin]
  have := strsOf_G ts
  simp only [vS] at this
  rw [this]
  simp only [e, e2]
  rw [if_pos ⟨by rw [List.length_map]; exact h1, h2⟩]
  rfl
theorem c_JoinG {ts : List GT} (h1 : ts.length ≤ 2000000000) (h2 : (joinG ts).length ≤ 140737488355328) : evp f_lex_Join [.slice 4 (ts.map rowG) .no] .none [] = some ⟨.ret (vS ⟨(joinG ts).toArray⟩), .none, []⟩ := by
  refine kt3_ev (wp_eq2 (y_Join _) (loop3 (fun i : Nat => ⟨tm2 20 [(3, slJG (ts.take i)), (6, (.slice 4 (ts.map rowG) .no)), (7, (vI (((ts.map rowG).length : Int)))), (8, (vI i))], lm2 20 [], ⟨[], [], .none, 0⟩⟩)
    (fun i => i ≤ ts.length) (fun i => ts.length - i) 0 (by kernel_rfl) (Nat.zero_le _) ?_))
  intro i hi
  have hn : ∀ (h : i < ts.length), slJG (ts.take (i + 1)) = .slice 1 ((ts.take i).map (fun t => [vS t.s]) ++ [[vS (ts[i]).s]]) .yes := fun h => by rw [List.take_succ_eq_append_getElem h, slJG_snoc]
  have hrow : ∀ (h : i < ts.length), (ts.map rowG)[i]? = some (rowG ts[i]) := fun h => by simp [h]
  have hend : ¬ i < ts.length → ts.take i = ts := fun h => List.take_of_length_le (by omega)
  cases hp : ts.take i with
  | nil =>
    rw [show slJG [] = .slice 0 [] .full from rfl]
    refine wp_eq2 (X_JoinR0_eq _ i) (wp_if2 (fun h => ?_) (fun h => ?_))
    · have h := of_decide_eq_true h
      rw [List.length_map] at h
      have h : i < ts.length := by omega
      refine wp_grow (hrow h) ⟨rfl, ?_⟩
      rw [kw_succ (by omega)]
      refine wp_done ⟨i + 1, ⟨by omega, by omega⟩, ?_⟩
      rw [hn h, hp]; rfl
    · have h := of_decide_eq_false h
      rw [List.length_map] at h
      have hts : ts = [] := by rw [← hend (by omega)]; exact hp
      subst hts
      exact wp_out ⟨_, c_JoinSG (ts := []) (by simp) h2, rfl, rfl⟩
  | cons u us =>
    rw [show slJG (u :: us) = .slice 1 ((u :: us).map fun t => [vS t.s]) .yes from rfl]
    refine wp_eq2 (X_JoinR_eq _ _ i) (wp_if2 (fun h => ?_) (fun h => ?_))
    · have h := of_decide_eq_true h
      rw [List.length_map] at h
      have h : i < ts.length := by omega
      have hlen : (u :: us).length ≤ i := by rw [← hp, List.length_take]; omega
      refine wp_grow (hrow h) ⟨by rw [Nat.ble_eq]; simp at hlen ⊢; omega, ?_⟩
      rw [kw_succ (by omega)]
      refine wp_done ⟨i + 1, ⟨by omega, by omega⟩, ?_⟩
      rw [hn h, hp]; rfl
    · have h := of_decide_eq_false h
      rw [List.length_map] at h
      have hts := hend (by omega)
      rw [hp] at hts
      rw [hts]
      exact wp_out ⟨_, c_JoinSG (by omega) h2, rfl, rfl⟩

/-! ### Join, of the document -/
/-- what is there ahead of the token i -/
def ahd (ts : List GT) (i : Nat) : T := joinG (ts.take i)
def bR (t : T) : List (List AV) := t.map fun b => [AV.val (.int .u8 b.toNat)]
def slB : T → AV
  | [] => .slice 0 [] .full
  | c :: t => .slice 1 (bR (c :: t)) .yes
theorem bR_dis (t : T) : List.map (fun x => List.map AV.dis x) (bR t) = bR t := by
  unfold bR
  rw [List.map_map]
  rfl
theorem bR_bytes : ∀ t : T, bytesOfRows (bR t) = some t
  | [] => rfl
  | c :: t => by
    have := bR_bytes t
    unfold bR at this ⊢
    rw [List.map_cons, bytesOfRows, this]
    simp
theorem bR_append (a b : T) : bR a ++ bR b = bR (a ++ b) := by simp [bR]
theorem bR_len (t : T) : (bR t).length = t.length := by simp [bR]
theorem join_snoc : ∀ (l : List T) (x : T), l ≠ [] → Lib.join (l ++ [x]) [32] = Lib.join l [32] ++ (32 :: x)
  | [], x, h => absurd rfl h
  | [a], x, _ => by simp [Lib.join, List.intercalate]
  | a :: b :: r, x, _ => by
    have := join_snoc (b :: r) x (by simp)
    rw [List.cons_append, List.cons_append, ] at *
    simp only [Lib.join, List.intercalate, List.intersperse] at this ⊢
    simp at this ⊢
    exact this
theorem ahd_succ {ts : List GT} {i : Nat} (h : i < ts.length) : ahd ts (i + 1) = if i = 0 then tx (ts[i]).s else ahd ts i ++ (32 :: tx (ts[i]).s) := by
  unfold ahd joinG
  rw [List.take_succ_eq_append_getElem h, List.map_append]
  split
  · rename_i h0
    subst h0
    simp [Lib.join, List.intercalate]
  · rename_i h0
    have hne : (ts.take i).map (fun t => tx t.s) ≠ [] := by
      intro e
      have := congrArg List.length e
      simp only [List.length_map, List.length_take, List.length_nil] at this; omega
    exact join_snoc _ _ hne
theorem y_rJoin (l : List (List AV)) : kt3 f_waferref03_Join [.slice 4 l .no] [] = Y_rJoin l := by delta Y_rJoin; rfl
theorem y_Ka (l : List (List AV)) (i : Nat) : (X_rJoinR0 l i).T.K ⟨tm2 25 [(0, (.slice 4 (l) .no)), (3, (.slice 0 [] .full)), (4, (vI i))], lm2 25 [], ⟨[], [], .none, 0⟩⟩ = Y_rJoinKa l i := by delta Y_rJoinKa X_rJoinR0; rfl
theorem y_Kb (l m : List (List AV)) (i : Nat) : (X_rJoinR0 l i).T.K ⟨tm2 25 [(0, (.slice 4 (l) .no)), (3, (.slice 1 m .yes)), (4, (vI i))], lm2 25 [], ⟨[], [], .none, 0⟩⟩ = Y_rJoinKb l m i := by delta Y_rJoinKb X_rJoinR0; rfl
theorem slB_ne {t : T} (h : t ≠ []) : slB t = .slice 1 (bR t) .yes := by
  cases t with
  | nil => exact absurd rfl h
  | cons c t => rfl
theorem c_rJoin {ts : List GT} (h1 : ts.length ≤ 2000000000) (h2 : ∀ i, i ≤ ts.length → (ahd ts i).length ≤ 2000000000) : evp f_waferref03_Join [.slice 4 (ts.map rowG) .no] .none [] = some ⟨.ret (vS ⟨(joinG ts).toArray⟩), .none, []⟩ := by
  refine kt3_ev (wp_eq2 (y_rJoin _) (loop3 (fun i : Nat => ⟨tm2 25 [(0, (.slice 4 (ts.map rowG) .no)), (3, slB (ahd ts i)), (4, (vI i))], lm2 25 [], ⟨[], [], .none, 0⟩⟩)
    (fun i => i ≤ ts.length) (fun i => ts.length - i) 0 (by kernel_rfl) (Nat.zero_le _) ?_))
  intro i hi
  have hrow : ∀ (h : i < ts.length), (ts.map rowG)[i]? = some (rowG ts[i]) := fun h => by simp [h]
  have hend : ¬ i < ts.length → ahd ts i = joinG ts := fun h => by unfold ahd; rw [List.take_of_length_le (by omega)]
  have hE : ∀ s : ByteArray, (List.map (fun b => [AV.val (Value.int IntKind.u8 (↑b.toNat : Int))]) s.data.toList) = bR (tx s) := fun s => rfl
  -- from what is there to what is there next
  have stepb : ∀ (m : T), m ≠ [] → (h : i < ts.length) → ahd ts (i + 1) = m ++ tx (ts[i]).s → ∀ {Q : List (St → Prop)}, (Y_rJoinKb (ts.map rowG) (bR m) i).wp Pg cfg0 evp ((fun s => ∃ a' : Nat, (a' ≤ ts.length ∧ ts.length - a' < ts.length - i) ∧ s = ⟨tm2 25 [(0, (.slice 4 (ts.map rowG) .no)), (3, slB (ahd ts a')), (4, (vI a'))], lm2 25 [], ⟨[], [], .none, 0⟩⟩) :: Q) (fun x => x = ⟨.ret (vS ⟨(joinG ts).toArray⟩), .none, []⟩) := by
    intro m hm h he Q
    have hb := h2 (i + 1) (by omega)
    rw [he, List.length_append] at hb
    refine wp_eq2 (X_rJoinKb_eq _ _ i) (wp_grow (hrow h) ?_)
    rw [hE, kw_succ (by omega)]
    refine wp_if2 (fun hz => ?_) (fun hz => ⟨?_, ?_⟩)
    · have hz : tx (ts[i]).s = [] := by
        have : bR (tx (ts[i]).s) = [] := by simpa using hz
        cases hq : tx (ts[i]).s with
        | nil => rfl
        | cons c q => rw [hq] at this; simp [bR] at this
      refine wp_done ⟨i + 1, ⟨by omega, by omega⟩, ?_⟩
      rw [he, hz, List.append_nil, slB_ne hm]
    · rw [Nat.ble_eq, bR_len, bR_len]; omega
    · refine wp_done ⟨i + 1, ⟨by omega, by omega⟩, ?_⟩
      rw [he, bR_dis, bR_append, slB_ne (by simp [hm])]
  cases hp : ahd ts i with
  | nil =>
    rw [show slB [] = .slice 0 [] .full from rfl]
    refine wp_eq2 (X_rJoinR0_eq _ i) (wp_if2 (fun h => wp_stage ?_) (fun h => ?_))
    · have h := of_decide_eq_true h
      rw [List.length_map] at h
      have h : i < ts.length := by omega
      have he := ahd_succ h
      rw [hp] at he
      refine wp_if2 (fun h0 => ⟨rfl, wp_done (wp_eq2 (y_Kb ..) ?_)⟩) (fun h0 => wp_done (wp_eq2 (y_Ka ..) ?_))
      · have h0 := of_decide_eq_true h0
        rw [if_neg (by omega)] at he
        exact stepb [32] (by simp) h (by rw [he]; rfl)
      · have h0 := of_decide_eq_false h0
        rw [if_pos (by omega)] at he
        have hb := h2 (i + 1) (by omega)
        rw [he] at hb
        refine wp_eq2 (X_rJoinKa_eq _ i) (wp_grow (hrow h) ?_)
        rw [hE, kw_succ (by omega)]
        refine wp_if2 (fun hz => ?_) (fun hz => ⟨?_, ?_⟩)
        · have hz : tx (ts[i]).s = [] := by
            have : bR (tx (ts[i]).s) = [] := by simpa using hz
            cases hq : tx (ts[i]).s with
            | nil => rfl
            | cons c q => rw [hq] at this; simp [bR] at this
          refine wp_done ⟨i + 1, ⟨by omega, by omega⟩, ?_⟩
          rw [he, hz]; rfl
        · rw [bR_len]
          have : (tx (ts[i]).s).length.ble 2147483648 = true := by rw [Nat.ble_eq]; omega
          rw [this]; rfl
        · refine wp_done ⟨i + 1, ⟨by omega, by omega⟩, ?_⟩
          have hne : tx (ts[i]).s ≠ [] := by
            intro e; rw [e] at hz; simp [bR] at hz
          rw [he, bR_dis, slB_ne hne]
    · have h := of_decide_eq_false h
      rw [List.length_map] at h
      have hj := hend (by omega)
      rw [hp] at hj
      refine wp_out ⟨⟨#[]⟩, rfl, rfl, ?_⟩
      rw [← hj]; rfl
  | cons c q =>
    rw [show slB (c :: q) = .slice 1 (bR (c :: q)) .yes from rfl]
    have hlq := h2 i hi
    rw [hp] at hlq
    refine wp_eq2 (X_rJoinR_eq _ _ i) (wp_if2 (fun h => wp_stage ?_) (fun h => ?_))
    · have h := of_decide_eq_true h
      rw [List.length_map] at h
      have h : i < ts.length := by omega
      have he := ahd_succ h
      rw [hp] at he
      have hip : i ≠ 0 := by
        rintro rfl
        simp [ahd, joinG, Lib.join, List.intercalate] at hp
      rw [if_neg hip] at he
      have hb := h2 (i + 1) (by omega)
      rw [he, List.length_append, List.length_cons] at hb
      refine wp_if2 (fun h0 => ⟨by rw [Nat.ble_eq, bR_len]; simp at hlq hb ⊢; omega, wp_done (wp_eq2 (X_rJoinRs1_eq _ _ i _) (wp_grow (hrow h) ?_))⟩) (fun h0 => absurd (of_decide_eq_false h0) (by omega))
      have e32 : bR (c :: q) ++ List.map (fun x => List.map AV.dis x) [[(AV.val (Value.int IntKind.u8 32)).dis]] = bR (c :: q ++ [32]) := by
        rw [← bR_append]; rfl
      rw [e32, hE, kw_succ (by omega)]
      have he2 : ahd ts (i + 1) = (c :: q ++ [32]) ++ tx (ts[i]).s := by rw [he]; simp
      refine wp_if2 (fun hz => ?_) (fun hz => ⟨?_, ?_⟩)
      · have hz : tx (ts[i]).s = [] := by
          have : bR (tx (ts[i]).s) = [] := by simpa using hz
          cases hq : tx (ts[i]).s with
          | nil => rfl
          | cons c q => rw [hq] at this; simp [bR] at this
        refine wp_done ⟨i + 1, ⟨by omega, by omega⟩, ?_⟩
        rw [he2, hz, List.append_nil, slB_ne (by simp)]
      · rw [Nat.ble_eq, bR_len, bR_len]; simp at hb ⊢; omega
      · refine wp_done ⟨i + 1, ⟨by omega, by omega⟩, ?_⟩
        rw [he2, bR_dis, bR_append, slB_ne (by simp)]
    · have h := of_decide_eq_false h
      rw [List.length_map] at h
      have hj := hend (by omega)
      rw [hp] at hj
      refine wp_out ⟨⟨(c :: q).toArray⟩, by rw [bR_bytes], rfl, ?_⟩
      rw [← hj]; exact rfl
end Go.Proofs
