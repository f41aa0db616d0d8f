/- nodes and depth of plain data, as the walker counts them -/
import Derived.Test.YtgimppnhjfjeaaaE29
open Go Go.Eng
namespace Go.Proofs
set_option linter.unusedVariables false

def oneR : Row → Nat
  | [] => 0
  | _ :: _ => 1

mutual
/-- nodes in a cell, in a row's cells, in rows. Lists of texts (rows of one cell) hold none. -/
def cntC : CT → Nat
  | .rows sz l => if sz = 1 then 0 else cnts l
  | _ => 0
def cntR : Row → Nat
  | [] => 0
  | c :: r => cntC c + cntR r
def cnts : List Row → Nat
  | [] => 0
  | r :: l => oneR r + cntR r + cnts l
end

mutual
/-- the greatest depth so far. -/
def wmC (m d : Nat) : CT → Nat
  | .rows sz l => if sz = 1 then m else wms m d l
  | _ => m
def wmR (m d : Nat) : Row → Nat
  | [] => m
  | c :: r => wmR (wmC m d c) d r
def wms (m d : Nat) : List Row → Nat
  | [] => m
  | r :: l => wms (wmR (max m (d + 1)) (d + 1) r) d l
end

theorem cnts_append (a b : List Row) : cnts (a ++ b) = cnts a + cnts b := by
  induction a with
  | nil => simp [cnts]
  | cons r a ih => simp only [List.cons_append, cnts, ih]; omega
theorem wms_append (m d : Nat) (a b : List Row) : wms m d (a ++ b) = wms (wms m d a) d b := by
  induction a generalizing m with
  | nil => rfl
  | cons r a ih => simp only [List.cons_append, wms, ih]
theorem take_succ' {α : Type} {l : List α} {i : Nat} {x : α} (h : l[i]? = some x) : l.take (i + 1) = l.take i ++ [x] := by
  rw [List.take_add_one, h]; rfl
theorem cnts_take {l : List Row} {i : Nat} {r : Row} (h : l[i]? = some r) : cnts (l.take (i + 1)) = cnts (l.take i) + oneR r + cntR r := by
  rw [take_succ' h, cnts_append]; simp only [cnts]; omega
theorem wms_take {m d : Nat} {l : List Row} {i : Nat} {r : Row} (h : l[i]? = some r) : wms m d (l.take (i + 1)) = wmR (max (wms m d (l.take i)) (d + 1)) (d + 1) r := by
  rw [take_succ' h, wms_append]; rfl
theorem cnts_le {l : List Row} {i : Nat} {r : Row} (h : l[i]? = some r) : cnts (l.take i) + oneR r + cntR r ≤ cnts l := by
  rw [← cnts_take h]
  conv => rhs; rw [← List.take_append_drop (i + 1) l, cnts_append]
  omega

theorem len_cnts {l : List Row} (h : ∀ r ∈ l, r ≠ []) : l.length ≤ cnts l := by
  induction l with
  | nil => simp [cnts]
  | cons r l ih =>
    have h1 := ih fun x hx => h x (by simp [hx])
    have h2 : oneR r = 1 := by cases r with
      | nil => exact absurd rfl (h [] (by simp))
      | cons => rfl
    simp only [List.length_cons, cnts]; omega

mutual
theorem cntC_bulk : ∀ c : CT, cntC c + 1 ≤ c.bulk
  | .int _ _ => by simp [cntC, CT.bulk]
  | .bool _ => by simp [cntC, CT.bulk]
  | .str _ => by simp [cntC, CT.bulk]
  | .rows sz l => by
    have := cnts_bulk' l
    rw [cntC, CT.bulk]
    split <;> omega
theorem cntR_bulk : ∀ r : Row, cntR r + r.length ≤ bulks r
  | [] => by simp [cntR, bulks]
  | c :: r => by
    have h1 := cntC_bulk c
    have h2 := cntR_bulk r
    simp only [cntR, bulks, List.length_cons]; omega
theorem cnts_bulk' : ∀ l : List Row, cnts l ≤ bulkss l
  | [] => by simp [cnts, bulkss]
  | r :: l => by
    have h1 := cntR_bulk r
    have h2 := cnts_bulk' l
    have h3 : oneR r ≤ r.length := by cases r <;> simp [oneR]
    simp only [cnts, bulkss]; omega
end
end Go.Proofs
