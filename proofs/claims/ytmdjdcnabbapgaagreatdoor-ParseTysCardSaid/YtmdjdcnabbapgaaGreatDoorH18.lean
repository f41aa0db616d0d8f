/- Texts of this proof folded into one: T1 TI TX T4a T4b T4c T2 T4d T5 U4 RX3. -/
import Derived.Test.YtmdjdcnabbapgaaGreatDoorH6
import Derived.Test.YtmdjdcnabbapgaaGreatDoorH7
import Derived.Test.YtmdjdcnabbapgaaGreatDoorH17
import Derived.Test.YtmdjdcnabbapgaaGreatDoorH15
section
/- nodes and depth of plain data, as the walker counts them -/
open Go Go.Eng
namespace Go.Proofs.Ck
set_option linter.unusedVariables false
def oneR : Row → Nat
  | [] => 0
  | _ :: _ => 1
mutual
/-- nodes in a cell, in a row's cells, in rows. Lists of texts (rows of one cell) hold none. -/
def cntC : CT → Nat
  | .rows sz l => if sz = 1 then 0 else cnts l
  | _ => 0
def cntR : Row → Nat
  | [] => 0
  | c :: r => cntC c + cntR r
def cnts : List Row → Nat
  | [] => 0
  | r :: l => oneR r + cntR r + cnts l
end
mutual
/-- the greatest depth so far. -/
def wmC (m d : Nat) : CT → Nat
  | .rows sz l => if sz = 1 then m else wms m d l
  | _ => m
def wmR (m d : Nat) : Row → Nat
  | [] => m
  | c :: r => wmR (wmC m d c) d r
def wms (m d : Nat) : List Row → Nat
  | [] => m
  | r :: l => wms (wmR (max m (d + 1)) (d + 1) r) d l
end
theorem cnts_append (a b : List Row) : cnts (a ++ b) = cnts a + cnts b := by
  induction a with
  | nil => simp [cnts]
  | cons r a ih => simp only [List.cons_append, cnts, ih]; omega
theorem wms_append (m d : Nat) (a b : List Row) : wms m d (a ++ b) = wms (wms m d a) d b := by
  induction a generalizing m with
  | nil => rfl
  | cons r a ih => simp only [List.cons_append, wms, ih]
theorem take_succ' {α : Type} {l : List α} {i : Nat} {x : α} (h : l[i]? = some x) : l.take (i + 1) = l.take i ++ [x] := by
  rw [List.take_add_one, h]; rfl
theorem cnts_take {l : List Row} {i : Nat} {r : Row} (h : l[i]? = some r) : cnts (l.take (i + 1)) = cnts (l.take i) + oneR r + cntR r := by
  rw [take_succ' h, cnts_append]; simp only [cnts]; omega
theorem wms_take {m d : Nat} {l : List Row} {i : Nat} {r : Row} (h : l[i]? = some r) : wms m d (l.take (i + 1)) = wmR (max (wms m d (l.take i)) (d + 1)) (d + 1) r := by
  rw [take_succ' h, wms_append]; rfl
theorem cnts_le {l : List Row} {i : Nat} {r : Row} (h : l[i]? = some r) : cnts (l.take i) + oneR r + cntR r ≤ cnts l := by
  rw [← cnts_take h]
  conv => rhs; rw [← List.take_append_drop (i + 1) l, cnts_append]
  omega
theorem len_cnts {l : List Row} (h : ∀ r ∈ l, r ≠ []) : l.length ≤ cnts l := by
  induction l with
  | nil => simp [cnts]
  | cons r l ih =>
    have h1 := ih fun x hx => h x (by simp [hx])
    have h2 : oneR r = 1 := by cases r with
      | nil => exact absurd rfl (h [] (by simp))
      | cons => rfl
    simp only [List.length_cons, cnts]; omega
end Go.Proofs.Ck
end

section
/- the nodes' types: what plain data of them looks like -/
open Go Go.Eng
namespace Go.Proofs.Ck
set_option linter.unusedVariables false
set_option maxRecDepth 100000
theorem u_int : Pg.underlying y_int = some (.int .i64) := by kernel_rfl
theorem u_string : Pg.underlying y_string = some .string := by kernel_rfl
theorem u_s_string : Pg.underlying y_s_string = some (.slice y_string) := by kernel_rfl
theorem c_string : Pg.cellsOf y_string = 1 := by kernel_rfl
theorem inv_string {r : Row} (h : Has Pg y_string r) : ∃ s, r = [.str s] ∧ s.size ≤ maxLen := h.str_inv u_string
theorem u_s_Ty : Pg.underlying y_s_api_Ty = some (.slice y_api_Ty) := by kernel_rfl
theorem c_Ty : Pg.cellsOf y_api_Ty = 4 := by kernel_rfl
theorem s_Ty : structTys Pg y_api_Ty = some [y_int, y_string, y_s_string, y_s_api_Ty] := by kernel_rfl
theorem inv_Ty {r : Row} (h : Has Pg y_api_Ty r) : ∃ (k : Int) (n : ByteArray) (p : List Row) (a : List Row), r = [.int .i64 k, .str n, .rows 1 p, .rows 4 a] ∧ (∀ x ∈ p, Has Pg y_string x) ∧ (∀ x ∈ a, Has Pg y_api_Ty x) := by
  have h := h.fields s_Ty
  obtain ⟨k, r, rfl, w_k, h⟩ := h.int u_int
  obtain ⟨n, r, rfl, w_n, h⟩ := h.str u_string
  obtain ⟨p, r, rfl, l_p, f_p, h⟩ := h.slice u_s_string 1 c_string
  obtain ⟨a, r, rfl, l_a, f_a, h⟩ := h.slice u_s_Ty 4 c_Ty
  obtain rfl := h.nil_inv
  exact ⟨k, n, p, a, rfl, f_p, f_a⟩
theorem ne_Ty {r : Row} (h : Has Pg y_api_Ty r) : r ≠ [] := by
  obtain ⟨_, _, _, _, rfl, _⟩ := inv_Ty h
  simp
end Go.Proofs.Ck
end

section
/- the checks' trees (printed by gen_x.py and kt.py) -/
open Go Go.Eng
namespace Go.Proofs.Ck
set_option linter.unusedVariables false
set_option maxRecDepth 100000
@[irreducible] noncomputable def X_eachTy_ty (l : List (List AV)) : KT := kt2 f_tree_each_api_Ty [.slice 4 l .no, .func (.func f_tree_ty) [] []] []
@[irreducible] noncomputable def X_eachstring_lowName (l : List (List AV)) : KT := kt2 f_tree_each_string [.slice 1 l .no, .func (.func f_tree_lowName) [] []] []
@[irreducible] noncomputable def X_eachstring_highName (l : List (List AV)) : KT := kt2 f_tree_each_string [.slice 1 l .no, .func (.func f_tree_highName) [] []] []
@[irreducible] noncomputable def Y_Right (s : ByteArray) : KT := (kt2 f_names_Right [vS s] []).K ⟨tm2 52 [(0, (vS (s)))], lm2 52 [], ⟨[], [], .none, 0⟩⟩
@[irreducible] noncomputable def Y_Tyvar (s : ByteArray) : KT := (kt2 f_names_Tyvar [vS s] []).K ⟨tm2 35 [(0, (vS (s)))], lm2 35 [], ⟨[], [], .none, 0⟩⟩
@[irreducible] noncomputable def Y_Path (p : List (List AV)) : KT := (kt2 f_names_Path [.slice 1 p .no] []).F.F
theorem X_low_eq (c : UInt8) : kt2 f_names_low [AV.val (Value.int IntKind.u8 (↑c.toNat : Int))] [] =
 (.branch (decide ((↑c.toNat : Int) ≥ 97))
 (.need true
 (.ret ⟨(.ret (vB (decide ((↑c.toNat : Int) ≤ 122)))), .none, []⟩))
 (.need true
 (.ret ⟨(.ret (vB false)), .none, []⟩))) := by kernel_rfl
theorem X_high_eq (c : UInt8) : kt2 f_names_high [AV.val (Value.int IntKind.u8 (↑c.toNat : Int))] [] =
 (.branch (decide ((↑c.toNat : Int) ≥ 65))
 (.need true
 (.ret ⟨(.ret (vB (decide ((↑c.toNat : Int) ≤ 90)))), .none, []⟩))
 (.need true
 (.ret ⟨(.ret (vB false)), .none, []⟩))) := by kernel_rfl
theorem X_digit_eq (c : UInt8) : kt2 f_names_digit [AV.val (Value.int IntKind.u8 (↑c.toNat : Int))] [] =
 (.branch (decide ((↑c.toNat : Int) ≥ 48))
 (.need true
 (.ret ⟨(.ret (vB (decide ((↑c.toNat : Int) ≤ 57)))), .none, []⟩))
 (.need true
 (.ret ⟨(.ret (vB false)), .none, []⟩))) := by kernel_rfl
theorem X_Reserved_eq (s : ByteArray) : kt2 f_names_Reserved [vS s] [] =
 (.branch (s.toList == (⟨#[98, 111, 111, 108]⟩ : ByteArray).toList)
 (.need true
 (.ret ⟨(.ret (vB true)), .none, []⟩))
 (.branch (s.toList == (⟨#[99, 97, 115, 101]⟩ : ByteArray).toList)
 (.need true
 (.ret ⟨(.ret (vB true)), .none, []⟩))
 (.branch (s.toList == (⟨#[100, 97, 116, 97]⟩ : ByteArray).toList)
 (.need true
 (.ret ⟨(.ret (vB true)), .none, []⟩))
 (.branch (s.toList == (⟨#[101, 108, 115, 101]⟩ : ByteArray).toList)
 (.need true
 (.ret ⟨(.ret (vB true)), .none, []⟩))
 (.branch (s.toList == (⟨#[101, 110, 100]⟩ : ByteArray).toList)
 (.need true
 (.ret ⟨(.ret (vB true)), .none, []⟩))
 (.branch (s.toList == (⟨#[102, 97, 108, 115, 101]⟩ : ByteArray).toList)
 (.need true
 (.ret ⟨(.ret (vB true)), .none, []⟩))
 (.branch (s.toList == (⟨#[102, 110]⟩ : ByteArray).toList)
 (.need true
 (.ret ⟨(.ret (vB true)), .none, []⟩))
 (.branch (s.toList == (⟨#[102, 117, 110]⟩ : ByteArray).toList)
 (.need true
 (.ret ⟨(.ret (vB true)), .none, []⟩))
 (.branch (s.toList == (⟨#[102, 117, 110, 99, 116, 111, 114]⟩ : ByteArray).toList)
 (.need true
 (.ret ⟨(.ret (vB true)), .none, []⟩))
 (.branch (s.toList == (⟨#[105, 102]⟩ : ByteArray).toList)
 (.need true
 (.ret ⟨(.ret (vB true)), .none, []⟩))
 (.branch (s.toList == (⟨#[105, 110]⟩ : ByteArray).toList)
 (.need true
 (.ret ⟨(.ret (vB true)), .none, []⟩))
 (.branch (s.toList == (⟨#[105, 110, 116]⟩ : ByteArray).toList)
 (.need true
 (.ret ⟨(.ret (vB true)), .none, []⟩))
 (.branch (s.toList == (⟨#[108, 101, 116]⟩ : ByteArray).toList)
 (.need true
 (.ret ⟨(.ret (vB true)), .none, []⟩))
 (.branch (s.toList == (⟨#[111, 102]⟩ : ByteArray).toList)
 (.need true
 (.ret ⟨(.ret (vB true)), .none, []⟩))
 (.branch (s.toList == (⟨#[115, 105, 103]⟩ : ByteArray).toList)
 (.need true
 (.ret ⟨(.ret (vB true)), .none, []⟩))
 (.branch (s.toList == (⟨#[115, 105, 103, 110, 97, 116, 117, 114, 101]⟩ : ByteArray).toList)
 (.need true
 (.ret ⟨(.ret (vB true)), .none, []⟩))
 (.branch (s.toList == (⟨#[115, 116, 114, 117, 99, 116]⟩ : ByteArray).toList)
 (.need true
 (.ret ⟨(.ret (vB true)), .none, []⟩))
 (.branch (s.toList == (⟨#[115, 116, 114, 117, 99, 116, 117, 114, 101]⟩ : ByteArray).toList)
 (.need true
 (.ret ⟨(.ret (vB true)), .none, []⟩))
 (.branch (s.toList == (⟨#[116, 104, 101, 110]⟩ : ByteArray).toList)
 (.need true
 (.ret ⟨(.ret (vB true)), .none, []⟩))
 (.branch (s.toList == (⟨#[116, 114, 117, 101]⟩ : ByteArray).toList)
 (.need true
 (.ret ⟨(.ret (vB true)), .none, []⟩))
 (.branch (s.toList == (⟨#[116, 121, 112, 101]⟩ : ByteArray).toList)
 (.need true
 (.ret ⟨(.ret (vB true)), .none, []⟩))
 (.branch (s.toList == (⟨#[117, 110, 105, 116]⟩ : ByteArray).toList)
 (.need true
 (.ret ⟨(.ret (vB true)), .none, []⟩))
 (.branch (s.toList == (⟨#[118, 97, 108]⟩ : ByteArray).toList)
 (.need true
 (.ret ⟨(.ret (vB true)), .none, []⟩))
 (.branch (s.toList == (⟨#[119, 104, 101, 114, 101]⟩ : ByteArray).toList)
 (.need true
 (.ret ⟨(.ret (vB true)), .none, []⟩))
 (.need true
 (.ret ⟨(.ret (vB false)), .none, []⟩)))))))))))))))))))))))))) := by kernel_rfl
@[irreducible] noncomputable def X_Right (s : ByteArray) : KT := kt2 f_names_Right [vS s] []
theorem X_Right_eq (s : ByteArray) : kt2 f_names_Right [vS s] [] =
 (.stage
 (.branch (s.toList == (⟨#[]⟩ : ByteArray).toList)
 (.out (.need true
 (.ret ⟨(.ret (vI (12))), .none, []⟩)))
 (.exY fun y =>
 (.byte (s) (0) (y)
 (.exB fun b =>
 (.call f_names_low [(.val (.int .u8 ((↑y.toNat : Int))))] .none [] ⟨(.ret (vB (b))), .none, []⟩
 (.branch (!b)
 (.exY fun y1 =>
 (.byte (s) (0) (y1)
 (.exB fun b1 =>
 (.call f_names_high [(.val (.int .u8 ((↑y1.toNat : Int))))] .none [] ⟨(.ret (vB (b1))), .none, []⟩
 (.branch (!b1)
 (.out (.need true
 (.ret ⟨(.ret (vI (12))), .none, []⟩)))
 (.done ⟨tm2 52 [(0, (vS (s)))], lm2 52 [], ⟨[], [], .none, 0⟩⟩))))))
 (.done ⟨tm2 52 [(0, (vS (s)))], lm2 52 [], ⟨[], [], .none, 0⟩⟩)))))))
 ((X_Right s).K)) := by kernel_rfl
@[irreducible] noncomputable def X_Tyvar (s : ByteArray) : KT := kt2 f_names_Tyvar [vS s] []
theorem X_Tyvar_eq (s : ByteArray) : kt2 f_names_Tyvar [vS s] [] =
 (.stage
 (.branch (s.toList == (⟨#[]⟩ : ByteArray).toList)
 (.out (.need true
 (.ret ⟨(.ret (vB false)), .none, []⟩)))
 (.branch (decide ((↑s.size : Int) ≥ 32))
 (.out (.need true
 (.ret ⟨(.ret (vB false)), .none, []⟩)))
 (.exY fun y =>
 (.byte (s) (0) (y)
 (.exB fun b =>
 (.call f_names_low [(.val (.int .u8 ((↑y.toNat : Int))))] .none [] ⟨(.ret (vB (b))), .none, []⟩
 (.branch (!b)
 (.out (.need true
 (.ret ⟨(.ret (vB false)), .none, []⟩)))
 (.done ⟨tm2 35 [(0, (vS (s)))], lm2 35 [], ⟨[], [], .none, 0⟩⟩))))))))
 ((X_Tyvar s).K)) := by kernel_rfl
theorem X_Lower_eq (s : ByteArray) : kt2 f_names_Lower [vS s] [] =
 (.exI fun i =>
 (.call f_names_Right [(vS (s))] .none [] ⟨(.ret (vI (i))), .none, []⟩
 (.branch (i == 0)
 (.exY fun y =>
 (.byte (s) (0) (y)
 (.exB fun b =>
 (.call f_names_low [(.val (.int .u8 ((↑y.toNat : Int))))] .none [] ⟨(.ret (vB (b))), .none, []⟩
 (.need true
 (.ret ⟨(.ret (vB (b))), .none, []⟩))))))
 (.need true
 (.ret ⟨(.ret (vB false)), .none, []⟩))))) := by kernel_rfl
theorem X_Upper_eq (s : ByteArray) : kt2 f_names_Upper [vS s] [] =
 (.exI fun i =>
 (.call f_names_Right [(vS (s))] .none [] ⟨(.ret (vI (i))), .none, []⟩
 (.branch (i == 0)
 (.exY fun y =>
 (.byte (s) (0) (y)
 (.exB fun b =>
 (.call f_names_high [(.val (.int .u8 ((↑y.toNat : Int))))] .none [] ⟨(.ret (vB (b))), .none, []⟩
 (.need true
 (.ret ⟨(.ret (vB (b))), .none, []⟩))))))
 (.need true
 (.ret ⟨(.ret (vB false)), .none, []⟩))))) := by kernel_rfl
@[irreducible] noncomputable def X_Path (p : List (List AV)) : KT := kt2 f_names_Path [AV.slice 1 p Own.no] []
theorem X_Path_eq (p : List (List AV)) : kt2 f_names_Path [AV.slice 1 p Own.no] [] =
 (.branch ((↑p.length : Int) == 0)
 (.need true
 (.ret ⟨(.ret (vI (1))), .none, []⟩))
 (.branch (decide ((↑p.length : Int) > 8))
 (.need true
 (.ret ⟨(.ret (vI (3))), .none, []⟩))
 ((X_Path p).F.F) /- LOOP f_names_Path block 1 at ⟨tm2 38 [(0, (.slice 1 (p) .no)), (14, (.slice 1 (p) .no)), (15, (vI ((↑p.length : Int)))), (16, (vI (0)))], lm2 38 [], ⟨[], [], .none, 0⟩⟩ -/)) := by kernel_rfl
theorem X_ask_eq (b : Bool) : kt2 f_tree_ask [vB b] [] =
 (.branch (!b)
 (.need true
 (.need true
 (.ret ⟨(.panic (.iface y_tree_wrong (vI (1)))), .none, []⟩)))
 (.need true
 (.ret ⟨(.ret (.tuple [])), .none, []⟩))) := by kernel_rfl
theorem X_count_eq (n : Int) (l : Int) (m : Int) : kt2 f_tree_count [vI n, vI l, vI m] [] =
 (.branch (decide (n ≥ l))
 (.branch (decide (m < 0))
 (.alt
 (.call f_tree_ask [(vB true)] .none [] ⟨(.ret (.tuple [])), .none, []⟩
 (.need true
 (.ret ⟨(.ret (.tuple [])), .none, []⟩)))
 (.exI fun i =>
 (.call f_tree_ask [(vB true)] .none [] ⟨(.panic (.iface y_tree_wrong (vI (i)))), .none, []⟩
 (.need true
 (.ret ⟨(.panic (.iface y_tree_wrong (vI (i)))), .none, []⟩)))))
 (.alt
 (.call f_tree_ask [(vB (decide (n ≤ m)))] .none [] ⟨(.ret (.tuple [])), .none, []⟩
 (.need true
 (.ret ⟨(.ret (.tuple [])), .none, []⟩)))
 (.exI fun i =>
 (.call f_tree_ask [(vB (decide (n ≤ m)))] .none [] ⟨(.panic (.iface y_tree_wrong (vI (i)))), .none, []⟩
 (.need true
 (.ret ⟨(.panic (.iface y_tree_wrong (vI (i)))), .none, []⟩))))))
 (.alt
 (.call f_tree_ask [(vB false)] .none [] ⟨(.ret (.tuple [])), .none, []⟩
 (.need true
 (.ret ⟨(.ret (.tuple [])), .none, []⟩)))
 (.exI fun i =>
 (.call f_tree_ask [(vB false)] .none [] ⟨(.panic (.iface y_tree_wrong (vI (i)))), .none, []⟩
 (.need true
 (.ret ⟨(.panic (.iface y_tree_wrong (vI (i)))), .none, []⟩)))))) := by kernel_rfl
theorem X_parts_eq (k : Int) : kt2 f_tree_parts [vI k] [] =
 (.branch (k == 7)
 (.need true
 (.ret ⟨(.ret (.tuple [(vI (1)), (vI (1)), (vI (0))])), .none, []⟩))
 (.branch (k == 8)
 (.need true
 (.ret ⟨(.ret (.tuple [(vI (0)), (vI (2)), (vI (0))])), .none, []⟩))
 (.branch (k == 9)
 (.need true
 (.ret ⟨(.ret (.tuple [(vI (0)), (vI (2)), (vI (0))])), .none, []⟩))
 (.branch (k == 13)
 (.need true
 (.ret ⟨(.ret (.tuple [(vI (0)), (vI (2)), (vI (0))])), .none, []⟩))
 (.branch (k == 10)
 (.need true
 (.ret ⟨(.ret (.tuple [(vI (0)), (vI (1)), (vI (0))])), .none, []⟩))
 (.branch (k == 11)
 (.need true
 (.ret ⟨(.ret (.tuple [(vI (0)), (vI (3)), (vI (0))])), .none, []⟩))
 (.branch (k == 12)
 (.need true
 (.ret ⟨(.ret (.tuple [(vI (-1)), (vI (-1)), (vI (0))])), .none, []⟩))
 (.branch (k == 14)
 (.need true
 (.ret ⟨(.ret (.tuple [(vI (0)), (vI (1)), (vI (1))])), .none, []⟩))
 (.need true
 (.ret ⟨(.ret (.tuple [(vI (0)), (vI (0)), (vI (0))])), .none, []⟩)))))))))) := by kernel_rfl
theorem X_lowName_eq (s : ByteArray) : kt2 f_tree_lowName [vS s] [] =
 (.exI fun i =>
 (.call f_names_Right [(vS (s))] .none [] ⟨(.ret (vI (i))), .none, []⟩
 (.branch (i != 0)
 (.need true
 (.need true
 (.ret ⟨(.panic (.iface y_tree_wrong (vI (i)))), .none, []⟩)))
 (.need true
 (.exB fun b =>
 (.call f_names_Lower [(vS (s))] .none [] ⟨(.ret (vB (b))), .none, []⟩
 (.branch (!b)
 (.need true
 (.need true
 (.ret ⟨(.panic (.iface y_tree_wrong (vI (12)))), .none, []⟩)))
 (.need true
 (.ret ⟨(.ret (.tuple [])), .none, []⟩))))))))) := by kernel_rfl
theorem X_highName_eq (s : ByteArray) : kt2 f_tree_highName [vS s] [] =
 (.exI fun i =>
 (.call f_names_Right [(vS (s))] .none [] ⟨(.ret (vI (i))), .none, []⟩
 (.branch (i != 0)
 (.need true
 (.need true
 (.ret ⟨(.panic (.iface y_tree_wrong (vI (i)))), .none, []⟩)))
 (.need true
 (.exB fun b =>
 (.call f_names_Upper [(vS (s))] .none [] ⟨(.ret (vB (b))), .none, []⟩
 (.branch (!b)
 (.need true
 (.need true
 (.ret ⟨(.panic (.iface y_tree_wrong (vI (12)))), .none, []⟩)))
 (.need true
 (.ret ⟨(.ret (.tuple [])), .none, []⟩))))))))) := by kernel_rfl
theorem X_lowPath_eq (p : List (List AV)) : kt2 f_tree_lowPath [AV.slice 1 p Own.no] [] =
 (.exI fun i =>
 (.call f_names_Path [(.slice 1 (p) .no)] .none [] ⟨(.ret (vI (i))), .none, []⟩
 (.branch (i != 0)
 (.need true
 (.need true
 (.ret ⟨(.panic (.iface y_tree_wrong (vI (i)))), .none, []⟩)))
 (.need true
 (.exS fun s =>
 (.row (p) (IntKind.i64.wrap ((↑p.length : Int) - 1)) [(vS (s))]
 (.exB fun b =>
 (.call f_names_Lower [(vS (s))] .none [] ⟨(.ret (vB (b))), .none, []⟩
 (.branch (!b)
 (.need true
 (.need true
 (.ret ⟨(.panic (.iface y_tree_wrong (vI (12)))), .none, []⟩)))
 (.need true
 (.ret ⟨(.ret (.tuple [])), .none, []⟩))))))))))) := by kernel_rfl
theorem X_highPath_eq (p : List (List AV)) : kt2 f_tree_highPath [AV.slice 1 p Own.no] [] =
 (.exI fun i =>
 (.call f_names_Path [(.slice 1 (p) .no)] .none [] ⟨(.ret (vI (i))), .none, []⟩
 (.branch (i != 0)
 (.need true
 (.need true
 (.ret ⟨(.panic (.iface y_tree_wrong (vI (i)))), .none, []⟩)))
 (.need true
 (.exS fun s =>
 (.row (p) (IntKind.i64.wrap ((↑p.length : Int) - 1)) [(vS (s))]
 (.exB fun b =>
 (.call f_names_Upper [(vS (s))] .none [] ⟨(.ret (vB (b))), .none, []⟩
 (.branch (!b)
 (.need true
 (.need true
 (.ret ⟨(.panic (.iface y_tree_wrong (vI (12)))), .none, []⟩)))
 (.need true
 (.ret ⟨(.ret (.tuple [])), .none, []⟩))))))))))) := by kernel_rfl
theorem X_basic_eq (p : List (List AV)) : kt2 f_tree_basic [AV.slice 1 p Own.no] [] =
 (.branch ((↑p.length : Int) == 1)
 (.exS fun s =>
 (.row (p) (0) [(vS (s))]
 (.branch (s.toList == (⟨#[105, 110, 116]⟩ : ByteArray).toList)
 (.need true
 (.ret ⟨(.ret (vB true)), .none, []⟩))
 (.exS fun s1 =>
 (.row (p) (0) [(vS (s1))]
 (.branch (s1.toList == (⟨#[98, 111, 111, 108]⟩ : ByteArray).toList)
 (.need true
 (.ret ⟨(.ret (vB true)), .none, []⟩))
 (.exS fun s2 =>
 (.row (p) (0) [(vS (s2))]
 (.need true
 (.ret ⟨(.ret (vB (s2.toList == (⟨#[117, 110, 105, 116]⟩ : ByteArray).toList))), .none, []⟩))))))))))
 (.need true
 (.ret ⟨(.ret (vB false)), .none, []⟩))) := by kernel_rfl
@[irreducible] noncomputable def X_Ty (k : Int) (n : ByteArray) (p : List (List AV)) (a : List (List AV)) : KT := kt2 f_tree_ty [AV.agg [vI k, vS n, AV.slice 1 p Own.no, AV.slice 4 a Own.no]] []
theorem X_Ty_eq (k : Int) (n : ByteArray) (p : List (List AV)) (a : List (List AV)) : kt2 f_tree_ty [AV.agg [vI k, vS n, AV.slice 1 p Own.no, AV.slice 4 a Own.no]] [] =
 (.stage
 (.branch (decide (k ≥ 1))
 (.alt
 (.call f_tree_ask [(vB (decide (k ≤ 4)))] .none [] ⟨(.ret (.tuple [])), .none, []⟩
 (.done ⟨tm2 69 [(1, (.ref [(vI (k)), (vS (n)), (.slice 1 (p) .no), (.slice 4 (a) .no)]))], lm2 69 [], ⟨[], [], .none, 0⟩⟩))
 (.exI fun i =>
 (.call f_tree_ask [(vB (decide (k ≤ 4)))] .none [] ⟨(.panic (.iface y_tree_wrong (vI (i)))), .none, []⟩
 (.out (.need true
 (.ret ⟨(.panic (.iface y_tree_wrong (vI (i)))), .none, []⟩))))))
 (.alt
 (.call f_tree_ask [(vB false)] .none [] ⟨(.ret (.tuple [])), .none, []⟩
 (.done ⟨tm2 69 [(1, (.ref [(vI (k)), (vS (n)), (.slice 1 (p) .no), (.slice 4 (a) .no)]))], lm2 69 [], ⟨[], [], .none, 0⟩⟩))
 (.exI fun i =>
 (.call f_tree_ask [(vB false)] .none [] ⟨(.panic (.iface y_tree_wrong (vI (i)))), .none, []⟩
 (.out (.need true
 (.ret ⟨(.panic (.iface y_tree_wrong (vI (i)))), .none, []⟩)))))))
 ((X_Ty k n p a).K)) := by kernel_rfl
@[irreducible] noncomputable def X_Tys1 (k : Int) (n : ByteArray) (p : List (List AV)) (a : List (List AV)) : KT := (X_Ty k n p a).K ⟨tm2 69 [(1, (.ref [(vI (k)), (vS (n)), (.slice 1 (p) .no), (.slice 4 (a) .no)]))], lm2 69 [], ⟨[], [], .none, 0⟩⟩
theorem X_Tys1_eq (k : Int) (n : ByteArray) (p : List (List AV)) (a : List (List AV)) : (X_Ty k n p a).K ⟨tm2 69 [(1, (.ref [(vI (k)), (vS (n)), (.slice 1 (p) .no), (.slice 4 (a) .no)]))], lm2 69 [], ⟨[], [], .none, 0⟩⟩ =
 (.stage
 (.branch (k == 1)
 (.branch (k == 2)
 (.alt
 (.call f_tree_ask [(vB true)] .none [] ⟨(.ret (.tuple [])), .none, []⟩
 (.done ⟨tm2 69 [(1, (.ref [(vI (k)), (vS (n)), (.slice 1 (p) .no), (.slice 4 (a) .no)]))], lm2 69 [], ⟨[], [], .none, 0⟩⟩))
 (.exI fun i =>
 (.call f_tree_ask [(vB true)] .none [] ⟨(.panic (.iface y_tree_wrong (vI (i)))), .none, []⟩
 (.out (.need true
 (.ret ⟨(.panic (.iface y_tree_wrong (vI (i)))), .none, []⟩))))))
 (.alt
 (.call f_tree_ask [(vB ((↑p.length : Int) == 0))] .none [] ⟨(.ret (.tuple [])), .none, []⟩
 (.done ⟨tm2 69 [(1, (.ref [(vI (k)), (vS (n)), (.slice 1 (p) .no), (.slice 4 (a) .no)]))], lm2 69 [], ⟨[], [], .none, 0⟩⟩))
 (.exI fun i =>
 (.call f_tree_ask [(vB ((↑p.length : Int) == 0))] .none [] ⟨(.panic (.iface y_tree_wrong (vI (i)))), .none, []⟩
 (.out (.need true
 (.ret ⟨(.panic (.iface y_tree_wrong (vI (i)))), .none, []⟩)))))))
 (.branch (n.toList == (⟨#[]⟩ : ByteArray).toList)
 (.branch (k == 2)
 (.alt
 (.call f_tree_ask [(vB true)] .none [] ⟨(.ret (.tuple [])), .none, []⟩
 (.done ⟨tm2 69 [(1, (.ref [(vI (k)), (vS (n)), (.slice 1 (p) .no), (.slice 4 (a) .no)]))], lm2 69 [], ⟨[], [], .none, 0⟩⟩))
 (.exI fun i =>
 (.call f_tree_ask [(vB true)] .none [] ⟨(.panic (.iface y_tree_wrong (vI (i)))), .none, []⟩
 (.out (.need true
 (.ret ⟨(.panic (.iface y_tree_wrong (vI (i)))), .none, []⟩))))))
 (.alt
 (.call f_tree_ask [(vB ((↑p.length : Int) == 0))] .none [] ⟨(.ret (.tuple [])), .none, []⟩
 (.done ⟨tm2 69 [(1, (.ref [(vI (k)), (vS (n)), (.slice 1 (p) .no), (.slice 4 (a) .no)]))], lm2 69 [], ⟨[], [], .none, 0⟩⟩))
 (.exI fun i =>
 (.call f_tree_ask [(vB ((↑p.length : Int) == 0))] .none [] ⟨(.panic (.iface y_tree_wrong (vI (i)))), .none, []⟩
 (.out (.need true
 (.ret ⟨(.panic (.iface y_tree_wrong (vI (i)))), .none, []⟩)))))))
 (.alt
 (.call f_tree_ask [(vB false)] .none [] ⟨(.ret (.tuple [])), .none, []⟩
 (.done ⟨tm2 69 [(1, (.ref [(vI (k)), (vS (n)), (.slice 1 (p) .no), (.slice 4 (a) .no)]))], lm2 69 [], ⟨[], [], .none, 0⟩⟩))
 (.exI fun i =>
 (.call f_tree_ask [(vB false)] .none [] ⟨(.panic (.iface y_tree_wrong (vI (i)))), .none, []⟩
 (.out (.need true
 (.ret ⟨(.panic (.iface y_tree_wrong (vI (i)))), .none, []⟩))))))))
 ((X_Tys1 k n p a).K)) := by kernel_rfl
@[irreducible] noncomputable def X_Tys2 (k : Int) (n : ByteArray) (p : List (List AV)) (a : List (List AV)) : KT := (X_Tys1 k n p a).K ⟨tm2 69 [(1, (.ref [(vI (k)), (vS (n)), (.slice 1 (p) .no), (.slice 4 (a) .no)]))], lm2 69 [], ⟨[], [], .none, 0⟩⟩
theorem X_Tys2_eq (k : Int) (n : ByteArray) (p : List (List AV)) (a : List (List AV)) : (X_Tys1 k n p a).K ⟨tm2 69 [(1, (.ref [(vI (k)), (vS (n)), (.slice 1 (p) .no), (.slice 4 (a) .no)]))], lm2 69 [], ⟨[], [], .none, 0⟩⟩ =
 (.stage
 (.branch (decide (k ≥ 3))
 (.alt
 (.call f_tree_ask [(vB ((↑a.length : Int) == 2))] .none [] ⟨(.ret (.tuple [])), .none, []⟩
 (.done ⟨tm2 69 [(1, (.ref [(vI (k)), (vS (n)), (.slice 1 (p) .no), (.slice 4 (a) .no)]))], lm2 69 [], ⟨[], [], .none, 0⟩⟩))
 (.exI fun i =>
 (.call f_tree_ask [(vB ((↑a.length : Int) == 2))] .none [] ⟨(.panic (.iface y_tree_wrong (vI (i)))), .none, []⟩
 (.out (.need true
 (.ret ⟨(.panic (.iface y_tree_wrong (vI (i)))), .none, []⟩))))))
 (.alt
 (.call f_tree_ask [(vB ((↑a.length : Int) == 0))] .none [] ⟨(.ret (.tuple [])), .none, []⟩
 (.done ⟨tm2 69 [(1, (.ref [(vI (k)), (vS (n)), (.slice 1 (p) .no), (.slice 4 (a) .no)]))], lm2 69 [], ⟨[], [], .none, 0⟩⟩))
 (.exI fun i =>
 (.call f_tree_ask [(vB ((↑a.length : Int) == 0))] .none [] ⟨(.panic (.iface y_tree_wrong (vI (i)))), .none, []⟩
 (.out (.need true
 (.ret ⟨(.panic (.iface y_tree_wrong (vI (i)))), .none, []⟩)))))))
 ((X_Tys2 k n p a).K)) := by kernel_rfl
@[irreducible] noncomputable def X_Tys3 (k : Int) (n : ByteArray) (p : List (List AV)) (a : List (List AV)) : KT := (X_Tys2 k n p a).K ⟨tm2 69 [(1, (.ref [(vI (k)), (vS (n)), (.slice 1 (p) .no), (.slice 4 (a) .no)]))], lm2 69 [], ⟨[], [], .none, 0⟩⟩
theorem X_Tys3_eq (k : Int) (n : ByteArray) (p : List (List AV)) (a : List (List AV)) : (X_Tys2 k n p a).K ⟨tm2 69 [(1, (.ref [(vI (k)), (vS (n)), (.slice 1 (p) .no), (.slice 4 (a) .no)]))], lm2 69 [], ⟨[], [], .none, 0⟩⟩ =
 (.stage
 (.branch (k == 1)
 (.exB fun b =>
 (.call f_names_Tyvar [(vS (n))] .none [] ⟨(.ret (vB (b))), .none, []⟩
 (.branch (!b)
 (.need true
 (.out (.need true
 (.ret ⟨(.panic (.iface y_tree_wrong (vI (12)))), .none, []⟩))))
 (.done ⟨tm2 69 [(1, (.ref [(vI (k)), (vS (n)), (.slice 1 (p) .no), (.slice 4 (a) .no)]))], lm2 69 [], ⟨[], [], .none, 0⟩⟩))))
 (.done ⟨tm2 69 [(1, (.ref [(vI (k)), (vS (n)), (.slice 1 (p) .no), (.slice 4 (a) .no)]))], lm2 69 [], ⟨[], [], .none, 0⟩⟩))
 ((X_Tys3 k n p a).K)) := by kernel_rfl
theorem X_Tys4_eq (k : Int) (n : ByteArray) (p : List (List AV)) (a : List (List AV)) : (X_Tys3 k n p a).K ⟨tm2 69 [(1, (.ref [(vI (k)), (vS (n)), (.slice 1 (p) .no), (.slice 4 (a) .no)]))], lm2 69 [], ⟨[], [], .none, 0⟩⟩ =
 (.branch (k == 2)
 (.exB fun b =>
 (.call f_tree_basic [(.slice 1 (p) .no)] .none [] ⟨(.ret (vB (b))), .none, []⟩
 (.branch (!b)
 (.alt
 (.call f_tree_lowPath [(.slice 1 (p) .no)] .none [] ⟨(.ret (.tuple [])), .none, []⟩
 (.alt
 (.call f_tree_each_api_Ty [(.slice 4 (a) .no), (.func (.func f_tree_ty) [] [])] .none [] ⟨(.ret (.tuple [])), .none, []⟩
 (.need true
 (.ret ⟨(.ret (.tuple [])), .none, []⟩)))
 (.exI fun i =>
 (.call f_tree_each_api_Ty [(.slice 4 (a) .no), (.func (.func f_tree_ty) [] [])] .none [] ⟨(.panic (.iface y_tree_wrong (vI (i)))), .none, []⟩
 (.need true
 (.ret ⟨(.panic (.iface y_tree_wrong (vI (i)))), .none, []⟩))))))
 (.exI fun i =>
 (.call f_tree_lowPath [(.slice 1 (p) .no)] .none [] ⟨(.panic (.iface y_tree_wrong (vI (i)))), .none, []⟩
 (.need true
 (.ret ⟨(.panic (.iface y_tree_wrong (vI (i)))), .none, []⟩)))))
 (.alt
 (.call f_tree_each_api_Ty [(.slice 4 (a) .no), (.func (.func f_tree_ty) [] [])] .none [] ⟨(.ret (.tuple [])), .none, []⟩
 (.need true
 (.ret ⟨(.ret (.tuple [])), .none, []⟩)))
 (.exI fun i =>
 (.call f_tree_each_api_Ty [(.slice 4 (a) .no), (.func (.func f_tree_ty) [] [])] .none [] ⟨(.panic (.iface y_tree_wrong (vI (i)))), .none, []⟩
 (.need true
 (.ret ⟨(.panic (.iface y_tree_wrong (vI (i)))), .none, []⟩))))))))
 (.alt
 (.call f_tree_each_api_Ty [(.slice 4 (a) .no), (.func (.func f_tree_ty) [] [])] .none [] ⟨(.ret (.tuple [])), .none, []⟩
 (.need true
 (.ret ⟨(.ret (.tuple [])), .none, []⟩)))
 (.exI fun i =>
 (.call f_tree_each_api_Ty [(.slice 4 (a) .no), (.func (.func f_tree_ty) [] [])] .none [] ⟨(.panic (.iface y_tree_wrong (vI (i)))), .none, []⟩
 (.need true
 (.ret ⟨(.panic (.iface y_tree_wrong (vI (i)))), .none, []⟩)))))) := by kernel_rfl
theorem X_eachTy_tyR_eq (l : List (List AV)) (i : Nat) : KT.round Pg cfg0 rs0 kc2 (X_eachTy_ty l) { tmps := tm2 16 [(1, AV.func (Fn.func f_tree_ty) [] []), (6, AV.slice 4 l Own.no), (7, vI (↑l.length : Int)), (8, vI (↑i : Int))], lh := lm2 16 [], g := { H := [], defers := [], rm := RM.none, base := 0 } } =
 (.branch (decide ((↑i : Int) < (↑l.length : Int)))
 (.exI fun i1 =>
 (.exS fun s =>
 (.exR fun l1 =>
 (.exR fun l2 =>
 (.row (l) ((↑i : Int)) [(vI (i1)), (vS (s)), (.slice 1 (l1) .no), (.slice 4 (l2) .no)]
 (.alt
 (.call f_tree_ty [(.agg [(vI (i1)), (vS (s)), (.slice 1 (l1) .no), (.slice 4 (l2) .no)])] .none [] ⟨(.ret (.tuple [])), .none, []⟩
 (.done ⟨tm2 16 [(1, (.func (.func f_tree_ty) [] [])), (6, (.slice 4 (l) .no)), (7, (vI ((↑l.length : Int)))), (8, (vI (IntKind.i64.wrap ((↑i : Int) + 1))))], lm2 16 [], ⟨[], [], .none, 0⟩⟩))
 (.exI fun i2 =>
 (.call f_tree_ty [(.agg [(vI (i1)), (vS (s)), (.slice 1 (l1) .no), (.slice 4 (l2) .no)])] .none [] ⟨(.panic (.iface y_tree_wrong (vI (i2)))), .none, []⟩
 (.out (.need true
 (.ret ⟨(.panic (.iface y_tree_wrong (vI (i2)))), .none, []⟩)))))))))))
 (.out (.need true
 (.ret ⟨(.ret (.tuple [])), .none, []⟩)))) := by kernel_rfl
theorem X_eachstring_lowNameR_eq (l : List (List AV)) (i : Nat) : KT.round Pg cfg0 rs0 kc2 (X_eachstring_lowName l) { tmps := tm2 16 [(1, AV.func (Fn.func f_tree_lowName) [] []), (6, AV.slice 1 l Own.no), (7, vI (↑l.length : Int)), (8, vI (↑i : Int))], lh := lm2 16 [], g := { H := [], defers := [], rm := RM.none, base := 0 } } =
 (.branch (decide ((↑i : Int) < (↑l.length : Int)))
 (.exS fun s =>
 (.row (l) ((↑i : Int)) [(vS (s))]
 (.alt
 (.call f_tree_lowName [(vS (s))] .none [] ⟨(.ret (.tuple [])), .none, []⟩
 (.done ⟨tm2 16 [(1, (.func (.func f_tree_lowName) [] [])), (6, (.slice 1 (l) .no)), (7, (vI ((↑l.length : Int)))), (8, (vI (IntKind.i64.wrap ((↑i : Int) + 1))))], lm2 16 [], ⟨[], [], .none, 0⟩⟩))
 (.exI fun i1 =>
 (.call f_tree_lowName [(vS (s))] .none [] ⟨(.panic (.iface y_tree_wrong (vI (i1)))), .none, []⟩
 (.out (.need true
 (.ret ⟨(.panic (.iface y_tree_wrong (vI (i1)))), .none, []⟩))))))))
 (.out (.need true
 (.ret ⟨(.ret (.tuple [])), .none, []⟩)))) := by kernel_rfl
theorem X_eachstring_highNameR_eq (l : List (List AV)) (i : Nat) : KT.round Pg cfg0 rs0 kc2 (X_eachstring_highName l) { tmps := tm2 16 [(1, AV.func (Fn.func f_tree_highName) [] []), (6, AV.slice 1 l Own.no), (7, vI (↑l.length : Int)), (8, vI (↑i : Int))], lh := lm2 16 [], g := { H := [], defers := [], rm := RM.none, base := 0 } } =
 (.branch (decide ((↑i : Int) < (↑l.length : Int)))
 (.exS fun s =>
 (.row (l) ((↑i : Int)) [(vS (s))]
 (.alt
 (.call f_tree_highName [(vS (s))] .none [] ⟨(.ret (.tuple [])), .none, []⟩
 (.done ⟨tm2 16 [(1, (.func (.func f_tree_highName) [] [])), (6, (.slice 1 (l) .no)), (7, (vI ((↑l.length : Int)))), (8, (vI (IntKind.i64.wrap ((↑i : Int) + 1))))], lm2 16 [], ⟨[], [], .none, 0⟩⟩))
 (.exI fun i1 =>
 (.call f_tree_highName [(vS (s))] .none [] ⟨(.panic (.iface y_tree_wrong (vI (i1)))), .none, []⟩
 (.out (.need true
 (.ret ⟨(.panic (.iface y_tree_wrong (vI (i1)))), .none, []⟩))))))))
 (.out (.need true
 (.ret ⟨(.ret (.tuple [])), .none, []⟩)))) := by kernel_rfl
theorem X_RightR_eq (s : ByteArray) (i : Nat) : KT.round Pg cfg0 rs0 kc2 (Y_Right s) { tmps := tm2 52 [(0, vS s), (20, vI (↑s.size : Int)), (21, vI (↑i : Int))], lh := lm2 52 [], g := { H := [], defers := [], rm := RM.none, base := 0 } } =
 (.branch (decide ((↑i : Int) < (↑s.size : Int)))
 (.exY fun y =>
 (.byte (s) ((↑i : Int)) (y)
 (.exB fun b =>
 (.call f_names_low [(.val (.int .u8 ((↑y.toNat : Int))))] .none [] ⟨(.ret (vB (b))), .none, []⟩
 (.branch (!b)
 (.exB fun b1 =>
 (.call f_names_high [(.val (.int .u8 ((↑y.toNat : Int))))] .none [] ⟨(.ret (vB (b1))), .none, []⟩
 (.branch (!b1)
 (.exB fun b2 =>
 (.call f_names_digit [(.val (.int .u8 ((↑y.toNat : Int))))] .none [] ⟨(.ret (vB (b2))), .none, []⟩
 (.branch (!b2)
 (.branch ((↑y.toNat : Int) != 95)
 (.out (.need true
 (.ret ⟨(.ret (vI (12))), .none, []⟩)))
 (.done ⟨tm2 52 [(0, (vS (s))), (20, (vI ((↑s.size : Int)))), (21, (vI (IntKind.i64.wrap ((↑i : Int) + 1))))], lm2 52 [], ⟨[], [], .none, 0⟩⟩))
 (.done ⟨tm2 52 [(0, (vS (s))), (20, (vI ((↑s.size : Int)))), (21, (vI (IntKind.i64.wrap ((↑i : Int) + 1))))], lm2 52 [], ⟨[], [], .none, 0⟩⟩))))
 (.done ⟨tm2 52 [(0, (vS (s))), (20, (vI ((↑s.size : Int)))), (21, (vI (IntKind.i64.wrap ((↑i : Int) + 1))))], lm2 52 [], ⟨[], [], .none, 0⟩⟩))))
 (.done ⟨tm2 52 [(0, (vS (s))), (20, (vI ((↑s.size : Int)))), (21, (vI (IntKind.i64.wrap ((↑i : Int) + 1))))], lm2 52 [], ⟨[], [], .none, 0⟩⟩))))))
 (.out (.branch (decide ((↑s.size : Int) > 32))
 (.need true
 (.ret ⟨(.ret (vI (3))), .none, []⟩))
 (.exB fun b =>
 (.call f_names_Reserved [(vS (s))] .none [] ⟨(.ret (vB (b))), .none, []⟩
 (.branch (b)
 (.need true
 (.ret ⟨(.ret (vI (12))), .none, []⟩))
 (.need true
 (.ret ⟨(.ret (vI (0))), .none, []⟩)))))))) := by kernel_rfl
theorem X_TyvarR_eq (s : ByteArray) (i : Nat) : KT.round Pg cfg0 rs0 kc2 (Y_Tyvar s) { tmps := tm2 35 [(0, vS s), (18, vI (↑s.size : Int)), (19, vI (↑i : Int))], lh := lm2 35 [], g := { H := [], defers := [], rm := RM.none, base := 0 } } =
 (.branch (decide ((↑i : Int) < (↑s.size : Int)))
 (.exY fun y =>
 (.byte (s) ((↑i : Int)) (y)
 (.exB fun b =>
 (.call f_names_low [(.val (.int .u8 ((↑y.toNat : Int))))] .none [] ⟨(.ret (vB (b))), .none, []⟩
 (.branch (!b)
 (.exY fun y1 =>
 (.byte (s) ((↑i : Int)) (y1)
 (.exB fun b1 =>
 (.call f_names_digit [(.val (.int .u8 ((↑y1.toNat : Int))))] .none [] ⟨(.ret (vB (b1))), .none, []⟩
 (.branch (!b1)
 (.out (.need true
 (.ret ⟨(.ret (vB false)), .none, []⟩)))
 (.done ⟨tm2 35 [(0, (vS (s))), (18, (vI ((↑s.size : Int)))), (19, (vI (IntKind.i64.wrap ((↑i : Int) + 1))))], lm2 35 [], ⟨[], [], .none, 0⟩⟩))))))
 (.done ⟨tm2 35 [(0, (vS (s))), (18, (vI ((↑s.size : Int)))), (19, (vI (IntKind.i64.wrap ((↑i : Int) + 1))))], lm2 35 [], ⟨[], [], .none, 0⟩⟩))))))
 (.out (.need true
 (.ret ⟨(.ret (vB true)), .none, []⟩)))) := by kernel_rfl
theorem X_PathR_eq (p : List (List AV)) (i : Nat) : KT.round Pg cfg0 rs0 kc2 (Y_Path p) { tmps := tm2 38 [(0, AV.slice 1 p Own.no), (14, AV.slice 1 p Own.no), (15, vI (↑p.length : Int)), (16, vI (↑i : Int))], lh := lm2 38 [], g := { H := [], defers := [], rm := RM.none, base := 0 } } =
 (.branch (decide ((↑i : Int) < (↑p.length : Int)))
 (.exS fun s =>
 (.row (p) ((↑i : Int)) [(vS (s))]
 (.exI fun i1 =>
 (.call f_names_Right [(vS (s))] .none [] ⟨(.ret (vI (i1))), .none, []⟩
 (.branch (i1 != 0)
 (.out (.need true
 (.ret ⟨(.ret (vI (i1))), .none, []⟩)))
 (.branch (decide ((↑i : Int) < IntKind.i64.wrap ((↑p.length : Int) - 1)))
 (.exY fun y =>
 (.byte (s) (0) (y)
 (.exB fun b =>
 (.call f_names_high [(.val (.int .u8 ((↑y.toNat : Int))))] .none [] ⟨(.ret (vB (b))), .none, []⟩
 (.branch (!b)
 (.out (.need true
 (.ret ⟨(.ret (vI (12))), .none, []⟩)))
 (.done ⟨tm2 38 [(0, (.slice 1 (p) .no)), (14, (.slice 1 (p) .no)), (15, (vI ((↑p.length : Int)))), (16, (vI (IntKind.i64.wrap ((↑i : Int) + 1))))], lm2 38 [], ⟨[], [], .none, 0⟩⟩))))))
 (.done ⟨tm2 38 [(0, (.slice 1 (p) .no)), (14, (.slice 1 (p) .no)), (15, (vI ((↑p.length : Int)))), (16, (vI (IntKind.i64.wrap ((↑i : Int) + 1))))], lm2 38 [], ⟨[], [], .none, 0⟩⟩)))))))
 (.out (.need true
 (.ret ⟨(.ret (vI (0))), .none, []⟩)))) := by kernel_rfl
end Go.Proofs.Ck
end

section
/- the checks of names and paths, and small ones: each answers something (or panics with an error) -/
open Go Go.Eng
namespace Go.Proofs.Ck
set_option linter.unusedVariables false
set_option linter.unusedSimpArgs false
set_option maxRecDepth 100000
/-- how a check ends: well, or with its error -/
def oc (e : Int) : Out := if e = 0 then .ret (.tuple []) else .panic (.iface y_tree_wrong (vI e))
theorem oc_ret : ∃ e, e ≠ 4 ∧ (⟨.ret (.tuple []), .none, []⟩ : CRes) = ⟨oc e, .none, []⟩ := ⟨0, by decide, rfl⟩
theorem oc_pan {e : Int} (h : e ≠ 0 ∧ e ≠ 4) : ∃ e', e' ≠ 4 ∧ (⟨.panic (.iface y_tree_wrong (vI e)), .none, []⟩ : CRes) = ⟨oc e', .none, []⟩ := ⟨e, h.2, by unfold oc; rw [if_neg h.1]⟩
theorem kt2_ex {f : FuncId} {args : List AV} {H : Heap} {Q : CRes → Prop} (h : (kt2 f args H).wp Pg cfg0 evp [] Q) : ∃ r, evp f args .none H = some r ∧ Q r := by
  delta kt2 at h
  exact ktree_sound (ev_byCode hx0) h
theorem kt2_oc {f : FuncId} {args : List AV} (h : (kt2 f args []).wp Pg cfg0 evp [] (fun r => ∃ e, e ≠ 4 ∧ r = ⟨oc e, .none, []⟩)) : ∃ e, e ≠ 4 ∧ evp f args .none [] = some ⟨oc e, .none, []⟩ := by
  obtain ⟨r, h1, e, he4, rfl⟩ := kt2_ex h
  exact ⟨e, he4, h1⟩
theorem kt2_b {f : FuncId} {args : List AV} (h : (kt2 f args []).wp Pg cfg0 evp [] (fun r => ∃ e, r = ⟨.ret (vB e), .none, []⟩)) : ∃ e, evp f args .none [] = some ⟨.ret (vB e), .none, []⟩ := by
  obtain ⟨r, h1, e, rfl⟩ := kt2_ex h
  exact ⟨e, h1⟩
section
variable {QD : List (St → Prop)} {QR : CRes → Prop}
theorem wp_alt {g : FuncId} {args : List AV} {t : KT} {f : Int → KT} (hc : ∃ e, e ≠ 4 ∧ evp g args .none [] = some ⟨oc e, .none, []⟩) (h1 : t.wp Pg cfg0 evp QD QR) (h2 : ∀ e, e ≠ 0 ∧ e ≠ 4 → (f e).wp Pg cfg0 evp QD QR) :
    (KT.alt (.call g args .none [] ⟨.ret (.tuple []), .none, []⟩ t) (.exI fun i => .call g args .none [] ⟨.panic (.iface y_tree_wrong (vI i)), .none, []⟩ (f i))).wp Pg cfg0 evp QD QR := by
  obtain ⟨e, h4, he⟩ := hc
  by_cases h : e = 0
  · subst h
    exact .inl ⟨he, h1⟩
  · refine .inr ⟨e, ?_, h2 e ⟨h, h4⟩⟩
    unfold oc at he; rw [if_neg h] at he; exact he
theorem wp_byte {s : ByteArray} {i : Int} {k : UInt8 → KT} (h0 : 0 ≤ i) (h : i.toNat < s.size) (hk : ∀ y, (k y).wp Pg cfg0 evp QD QR) : (KT.exY fun y => .byte s i y (k y)).wp Pg cfg0 evp QD QR :=
  ⟨s[i.toNat], ⟨h0, by rw [getElem?_pos s i.toNat h]⟩, hk _⟩
end
theorem ne_size {s : ByteArray} (h : (s.toList == (⟨#[]⟩ : ByteArray).toList) = false) : 0 < s.size := by
  rcases Nat.eq_zero_or_pos s.size with h0 | h0
  · exfalso
    obtain ⟨d⟩ := s
    have : d = #[] := Array.eq_empty_of_size_eq_zero h0
    subst this
    simp at h
  · exact h0
theorem c_low (c : UInt8) : ∃ e, evp f_names_low [.val (.int .u8 c.toNat)] .none [] = some ⟨.ret (vB e), .none, []⟩ := kt2_b (wp_eq2 (X_low_eq c) (by repeat' first | exact ⟨_, rfl⟩ | refine wp_need ?_ | refine wp_if2 (fun h => ?_) (fun h => ?_)))
theorem c_high (c : UInt8) : ∃ e, evp f_names_high [.val (.int .u8 c.toNat)] .none [] = some ⟨.ret (vB e), .none, []⟩ := kt2_b (wp_eq2 (X_high_eq c) (by repeat' first | exact ⟨_, rfl⟩ | refine wp_need ?_ | refine wp_if2 (fun h => ?_) (fun h => ?_)))
theorem c_digit (c : UInt8) : ∃ e, evp f_names_digit [.val (.int .u8 c.toNat)] .none [] = some ⟨.ret (vB e), .none, []⟩ := kt2_b (wp_eq2 (X_digit_eq c) (by repeat' first | exact ⟨_, rfl⟩ | refine wp_need ?_ | refine wp_if2 (fun h => ?_) (fun h => ?_)))
theorem c_Reserved (s : ByteArray) : ∃ e, evp f_names_Reserved [vS s] .none [] = some ⟨.ret (vB e), .none, []⟩ := kt2_b (wp_eq2 (X_Reserved_eq s) (by repeat' first | exact ⟨_, rfl⟩ | refine wp_need ?_ | refine wp_if2 (fun h => ?_) (fun h => ?_)))
theorem c_ask (b : Bool) : ∃ e, e ≠ 4 ∧ evp f_tree_ask [vB b] .none [] = some ⟨oc e, .none, []⟩ := kt2_oc (wp_eq2 (X_ask_eq b) (by repeat' first | exact oc_ret | exact oc_pan (by decide) | refine wp_need ?_ | refine wp_if2 (fun h => ?_) (fun h => ?_)))
theorem c_count (n l m : Int) : ∃ e, e ≠ 4 ∧ evp f_tree_count [vI n, vI l, vI m] .none [] = some ⟨oc e, .none, []⟩ := kt2_oc (wp_eq2 (X_count_eq n l m) (by repeat' first | exact oc_ret | exact oc_pan (by assumption) | refine wp_need ?_ | refine wp_alt (c_ask _) ?_ (fun e h => ?_) | refine wp_if2 (fun h => ?_) (fun h => ?_)))
theorem c_parts (k : Int) : ∃ a b c, evp f_tree_parts [vI k] .none [] = some ⟨.ret (.tuple [vI a, vI b, vI c]), .none, []⟩ := by
  obtain ⟨r, h1, a, b, c, rfl⟩ := kt2_ex (Q := fun r => ∃ a b c, r = ⟨.ret (.tuple [vI a, vI b, vI c]), .none, []⟩) (wp_eq2 (X_parts_eq k) (by repeat' first | exact ⟨_, _, _, rfl⟩ | refine wp_need ?_ | refine wp_if2 (fun h => ?_) (fun h => ?_)))
  exact ⟨a, b, c, h1⟩
theorem y_Right (s : ByteArray) : (X_Right s).K ⟨tm2 52 [(0, (vS (s)))], lm2 52 [], ⟨[], [], .none, 0⟩⟩ = Y_Right s := by kernel_rfl
theorem y_Tyvar (s : ByteArray) : (X_Tyvar s).K ⟨tm2 35 [(0, (vS (s)))], lm2 35 [], ⟨[], [], .none, 0⟩⟩ = Y_Tyvar s := by kernel_rfl
theorem y_Path (p : List (List AV)) : (X_Path p).F.F = Y_Path p := by kernel_rfl
/-- a name's error; none: it is not empty -/
theorem c_Right {s : ByteArray} (hs : s.size < 4611686018427387904) : ∃ e, evp f_names_Right [vS s] .none [] = some ⟨.ret (vI e), .none, []⟩ ∧ (e = 0 → 0 < s.size) ∧ e ≠ 4 := by
  obtain ⟨r, h1, e, rfl, h2⟩ := kt2_ex (f := f_names_Right) (args := [vS s]) (H := []) (Q := fun r => ∃ e, r = ⟨.ret (vI e), .none, []⟩ ∧ (e = 0 → 0 < s.size) ∧ e ≠ 4) (by
    have hl : 0 < s.size → (Y_Right s).wp Pg cfg0 evp [] (fun r => ∃ e, r = ⟨.ret (vI e), .none, []⟩ ∧ (e = 0 → 0 < s.size) ∧ e ≠ 4) := by
      intro hpos
      refine loop2 (fun i : Nat => ⟨tm2 52 [(0, (vS (s))), (20, (vI ((↑s.size : Int)))), (21, (vI i))], lm2 52 [], ⟨[], [], .none, 0⟩⟩) (fun i => i ≤ s.size) (fun i => s.size - i) 0 (by kernel_rfl) (Nat.zero_le _) ?_
      intro i hi
      refine wp_eq2 (X_RightR_eq s i) ?_
      refine wp_if2 (fun h => ?_) (fun h => ?_)
      · have h := of_decide_eq_true h
        rw [kw_succ (x := i) (by omega)]
        refine wp_byte (Int.natCast_nonneg i) (by rw [Int.toNat_natCast]; omega) (fun y => ?_)
        repeat' first
          | exact ⟨_, rfl, fun h => absurd h (by decide), by decide⟩
          | exact wp_done ⟨i + 1, ⟨by omega, by omega⟩, rfl⟩
          | refine wp_need ?_
          | refine wp_out ?_
          | refine wp_callB2 (c_low _) (fun b => ?_)
          | refine wp_callB2 (c_high _) (fun b => ?_)
          | refine wp_callB2 (c_digit _) (fun b => ?_)
          | refine wp_if2 (fun h => ?_) (fun h => ?_)
      · repeat' first
          | exact ⟨_, rfl, fun h => absurd h (by decide), by decide⟩
          | exact ⟨_, rfl, fun _ => hpos, by decide⟩
          | refine wp_need ?_
          | refine wp_out ?_
          | refine wp_callB2 (c_Reserved _) (fun b => ?_)
          | refine wp_if2 (fun h => ?_) (fun h => ?_)
    refine wp_eq2 (X_Right_eq s) (wp_stage (wp_if2 (fun h => ?_) (fun h => ?_)))
    · exact wp_out (wp_need ⟨_, rfl, fun h => absurd h (by decide), by decide⟩)
    · have hp := ne_size h
      repeat' first
        | exact ⟨_, rfl, fun h => absurd h (by decide), by decide⟩
        | exact wp_done (wp_eq2 (y_Right s) (hl hp))
        | refine wp_need ?_
        | refine wp_out ?_
        | refine wp_byte (by decide) (by simpa using hp) (fun y => ?_)
        | refine wp_callB2 (c_low _) (fun b => ?_)
        | refine wp_callB2 (c_high _) (fun b => ?_)
        | refine wp_if2 (fun h => ?_) (fun h => ?_))
  exact ⟨e, h1, h2⟩
end Go.Proofs.Ck
end

section
/- the checks of names and paths, further -/
open Go Go.Eng
namespace Go.Proofs.Ck
set_option linter.unusedVariables false
set_option linter.unusedSimpArgs false
set_option maxRecDepth 100000
def SMALL : Nat := 4611686018427387904
section
variable {QD : List (St → Prop)} {QR : CRes → Prop}
theorem wp_Right {s : ByteArray} {k : Int → KT} (hs : s.size < SMALL) (h : ∀ i, (i = 0 → 0 < s.size) → i ≠ 4 → (k i).wp Pg cfg0 evp QD QR) : (KT.exI fun i => .call f_names_Right [vS s] .none [] ⟨.ret (vI i), .none, []⟩ (k i)).wp Pg cfg0 evp QD QR := by
  obtain ⟨i, h1, h2, h4⟩ := c_Right hs
  exact ⟨i, h1, h i h2 h4⟩
end
theorem c_Tyvar {s : ByteArray} (hs : s.size < SMALL) : ∃ e, evp f_names_Tyvar [vS s] .none [] = some ⟨.ret (vB e), .none, []⟩ := by
  unfold SMALL at hs
  refine kt2_b ?_
  have hl : (Y_Tyvar s).wp Pg cfg0 evp [] (fun r => ∃ e, r = ⟨.ret (vB e), .none, []⟩) := by
    refine loop2 (fun i : Nat => ⟨tm2 35 [(0, (vS (s))), (18, (vI ((↑s.size : Int)))), (19, (vI i))], lm2 35 [], ⟨[], [], .none, 0⟩⟩) (fun i => i ≤ s.size) (fun i => s.size - i) 0 (by kernel_rfl) (Nat.zero_le _) ?_
    intro i hi
    refine wp_eq2 (X_TyvarR_eq s i) ?_
    refine wp_if2 (fun h => ?_) (fun h => ?_)
    · have h := of_decide_eq_true h
      rw [kw_succ (x := i) (by omega)]
      refine wp_byte (Int.natCast_nonneg i) (by rw [Int.toNat_natCast]; omega) (fun y => ?_)
      repeat' first
        | exact ⟨_, rfl⟩
        | exact wp_done ⟨i + 1, ⟨by omega, by omega⟩, rfl⟩
        | refine wp_need ?_
        | refine wp_out ?_
        | refine wp_callB2 (c_low _) (fun b => ?_)
        | refine wp_callB2 (c_digit _) (fun b => ?_)
        | refine wp_if2 (fun h => ?_) (fun h => ?_)
        | refine wp_byte (Int.natCast_nonneg i) (by rw [Int.toNat_natCast]; omega) (fun y => ?_)
    · repeat' first
        | exact ⟨_, rfl⟩
        | refine wp_need ?_
        | refine wp_out ?_
        | refine wp_if2 (fun h => ?_) (fun h => ?_)
  refine wp_eq2 (X_Tyvar_eq s) (wp_stage (wp_if2 (fun h => ?_) (fun h => ?_)))
  · exact wp_out (wp_need ⟨_, rfl⟩)
  · have hp := ne_size h
    repeat' first
      | exact ⟨_, rfl⟩
      | exact wp_done (wp_eq2 (y_Tyvar s) hl)
      | refine wp_need ?_
      | refine wp_out ?_
      | refine wp_byte (by decide) (by simpa using hp) (fun y => ?_)
      | refine wp_callB2 (c_low _) (fun b => ?_)
      | refine wp_if2 (fun h => ?_) (fun h => ?_)
theorem c_Lower {s : ByteArray} (hs : s.size < SMALL) : ∃ e, evp f_names_Lower [vS s] .none [] = some ⟨.ret (vB e), .none, []⟩ := by
  refine kt2_b (wp_eq2 (X_Lower_eq s) (wp_Right hs fun i hi h4 => ?_))
  repeat' first
    | exact ⟨_, rfl⟩
    | refine wp_need ?_
    | refine wp_byte (by decide) (by simpa using hi (beq_iff_eq.1 (by assumption))) (fun y => ?_)
    | refine wp_callB2 (c_low _) (fun b => ?_)
    | refine wp_if2 (fun h => ?_) (fun h => ?_)
theorem c_Upper {s : ByteArray} (hs : s.size < SMALL) : ∃ e, evp f_names_Upper [vS s] .none [] = some ⟨.ret (vB e), .none, []⟩ := by
  refine kt2_b (wp_eq2 (X_Upper_eq s) (wp_Right hs fun i hi h4 => ?_))
  repeat' first
    | exact ⟨_, rfl⟩
    | refine wp_need ?_
    | refine wp_byte (by decide) (by simpa using hi (beq_iff_eq.1 (by assumption))) (fun y => ?_)
    | refine wp_callB2 (c_high _) (fun b => ?_)
    | refine wp_if2 (fun h => ?_) (fun h => ?_)
theorem c_lowName {s : ByteArray} (hs : s.size < SMALL) : ∃ e, e ≠ 4 ∧ evp f_tree_lowName [vS s] .none [] = some ⟨oc e, .none, []⟩ := by
  refine kt2_oc (wp_eq2 (X_lowName_eq s) (wp_Right hs fun i hi h4 => ?_))
  repeat' first
    | exact oc_ret
    | exact oc_pan (by decide)
    | exact oc_pan ⟨bne_iff_ne.1 (by assumption), by assumption⟩
    | refine wp_need ?_
    | refine wp_callB2 (c_Lower hs) (fun b => ?_)
    | refine wp_if2 (fun h => ?_) (fun h => ?_)
theorem c_highName {s : ByteArray} (hs : s.size < SMALL) : ∃ e, e ≠ 4 ∧ evp f_tree_highName [vS s] .none [] = some ⟨oc e, .none, []⟩ := by
  refine kt2_oc (wp_eq2 (X_highName_eq s) (wp_Right hs fun i hi h4 => ?_))
  repeat' first
    | exact oc_ret
    | exact oc_pan (by decide)
    | exact oc_pan ⟨bne_iff_ne.1 (by assumption), by assumption⟩
    | refine wp_need ?_
    | refine wp_callB2 (c_Upper hs) (fun b => ?_)
    | refine wp_if2 (fun h => ?_) (fun h => ?_)
/-- rows of texts, none too long -/
def Strs (p : List (List AV)) : Prop := ∀ r ∈ p, ∃ s : ByteArray, r = [vS s] ∧ s.size < SMALL
theorem Strs.at {p : List (List AV)} (h : Strs p) {i : Nat} (hi : i < p.length) : ∃ s : ByteArray, p[i]? = some [vS s] ∧ s.size < SMALL := by
  obtain ⟨s, h1, h2⟩ := h p[i] (List.getElem_mem hi)
  exact ⟨s, by rw [List.getElem?_eq_getElem hi, h1], h2⟩
theorem c_Path {p : List (List AV)} (hp : Strs p) : ∃ e, evp f_names_Path [.slice 1 p .no] .none [] = some ⟨.ret (vI e), .none, []⟩ ∧ (e = 0 → 0 < p.length ∧ p.length ≤ 8) ∧ e ≠ 4 := by
  obtain ⟨r, h1, e, rfl, h2⟩ := kt2_ex (f := f_names_Path) (args := [.slice 1 p .no]) (H := []) (Q := fun r => ∃ e, r = ⟨.ret (vI e), .none, []⟩ ∧ (e = 0 → 0 < p.length ∧ p.length ≤ 8) ∧ e ≠ 4) (by
    have hl : 0 < p.length → p.length ≤ 8 → (Y_Path p).wp Pg cfg0 evp [] (fun r => ∃ e, r = ⟨.ret (vI e), .none, []⟩ ∧ (e = 0 → 0 < p.length ∧ p.length ≤ 8) ∧ e ≠ 4) := by
      intro hpos hle
      refine loop2 (fun i : Nat => ⟨tm2 38 [(0, (.slice 1 (p) .no)), (14, (.slice 1 (p) .no)), (15, (vI ((↑p.length : Int)))), (16, (vI i))], lm2 38 [], ⟨[], [], .none, 0⟩⟩) (fun i => i ≤ p.length) (fun i => p.length - i) 0 (by kernel_rfl) (Nat.zero_le _) ?_
      intro i hi
      refine wp_eq2 (X_PathR_eq p i) ?_
      refine wp_if2 (fun h => ?_) (fun h => ?_)
      · have h := of_decide_eq_true h
        obtain ⟨s, hs1, hs2⟩ := hp.at (i := i) (by omega)
        rw [kw_succ (x := i) (by omega)]
        refine ⟨s, ⟨Int.natCast_nonneg i, hs1⟩, wp_Right hs2 fun j hj h4 => ?_⟩
        refine wp_if2 (fun h => ?_) (fun h => ?_)
        · exact wp_out (wp_need ⟨_, rfl, fun h0 => absurd h0 (bne_iff_ne.1 h), h4⟩)
        · have hj0 : j = 0 := by simpa using h
          repeat' first
            | exact ⟨_, rfl, fun h => absurd h (by decide), by decide⟩
            | exact wp_done ⟨i + 1, ⟨by omega, by omega⟩, rfl⟩
            | refine wp_need ?_
            | refine wp_out ?_
            | refine wp_byte (by decide) (by simpa using hj hj0) (fun y => ?_)
            | refine wp_callB2 (c_high _) (fun b => ?_)
            | refine wp_if2 (fun h => ?_) (fun h => ?_)
      · exact wp_out (wp_need ⟨_, rfl, fun _ => ⟨hpos, hle⟩, by decide⟩)
    refine wp_eq2 (X_Path_eq p) (wp_if2 (fun h => ?_) (fun h => wp_if2 (fun h2 => ?_) (fun h2 => ?_)))
    · exact wp_need ⟨_, rfl, fun h => absurd h (by decide), by decide⟩
    · exact wp_need ⟨_, rfl, fun h => absurd h (by decide), by decide⟩
    · have h2 := of_decide_eq_false h2
      have h := beq_eq_false_iff_ne.1 h
      exact wp_eq2 (y_Path p) (hl (by omega) (by omega)))
  exact ⟨e, h1, h2⟩
section
variable {QD : List (St → Prop)} {QR : CRes → Prop}
theorem wp_Path {p : List (List AV)} {k : Int → KT} (hp : Strs p) (h : ∀ i, (i = 0 → 0 < p.length ∧ p.length ≤ 8) → i ≠ 4 → (k i).wp Pg cfg0 evp QD QR) : (KT.exI fun i => .call f_names_Path [.slice 1 p .no] .none [] ⟨.ret (vI i), .none, []⟩ (k i)).wp Pg cfg0 evp QD QR := by
  obtain ⟨i, h1, h2, h4⟩ := c_Path hp
  exact ⟨i, h1, h i h2 h4⟩
end
theorem last_at {p : List (List AV)} (hp : Strs p) (h : 0 < p.length ∧ p.length ≤ 8) : ∃ s : ByteArray, (0 ≤ IntKind.i64.wrap ((p.length : Int) - 1) ∧ p[(IntKind.i64.wrap ((p.length : Int) - 1)).toNat]? = some [vS s]) ∧ s.size < SMALL := by
  have e : IntKind.i64.wrap ((p.length : Int) - 1) = ((p.length - 1 : Nat) : Int) := by
    obtain ⟨n, hn⟩ : ∃ n, p.length = n + 1 := ⟨p.length - 1, by omega⟩
    rw [hn, kw_pred (by omega)]; rfl
  obtain ⟨s, h1, h2⟩ := hp.at (i := p.length - 1) (by omega)
  exact ⟨s, ⟨by rw [e]; omega, by rw [e, Int.toNat_natCast]; exact h1⟩, h2⟩
theorem c_lowPath {p : List (List AV)} (hp : Strs p) : ∃ e, e ≠ 4 ∧ evp f_tree_lowPath [.slice 1 p .no] .none [] = some ⟨oc e, .none, []⟩ := by
  refine kt2_oc (wp_eq2 (X_lowPath_eq p) (wp_Path hp fun i hi h4 => wp_if2 (fun h => ?_) (fun h => ?_)))
  · repeat' first
      | exact oc_pan ⟨bne_iff_ne.1 h, h4⟩
      | refine wp_need ?_
  · obtain ⟨s, h1, h2⟩ := last_at hp (hi (by simpa using h))
    refine wp_need ⟨s, h1, ?_⟩
    repeat' first
      | exact oc_ret
      | exact oc_pan (by decide)
      | refine wp_need ?_
      | refine wp_callB2 (c_Lower h2) (fun b => ?_)
      | refine wp_if2 (fun h => ?_) (fun h => ?_)
theorem c_highPath {p : List (List AV)} (hp : Strs p) : ∃ e, e ≠ 4 ∧ evp f_tree_highPath [.slice 1 p .no] .none [] = some ⟨oc e, .none, []⟩ := by
  refine kt2_oc (wp_eq2 (X_highPath_eq p) (wp_Path hp fun i hi h4 => wp_if2 (fun h => ?_) (fun h => ?_)))
  · repeat' first
      | exact oc_pan ⟨bne_iff_ne.1 h, h4⟩
      | refine wp_need ?_
  · obtain ⟨s, h1, h2⟩ := last_at hp (hi (by simpa using h))
    refine wp_need ⟨s, h1, ?_⟩
    repeat' first
      | exact oc_ret
      | exact oc_pan (by decide)
      | refine wp_need ?_
      | refine wp_callB2 (c_Upper h2) (fun b => ?_)
      | refine wp_if2 (fun h => ?_) (fun h => ?_)
theorem c_basic {p : List (List AV)} (hp : Strs p) : ∃ e, evp f_tree_basic [.slice 1 p .no] .none [] = some ⟨.ret (vB e), .none, []⟩ := by
  refine kt2_b (wp_eq2 (X_basic_eq p) (wp_if2 (fun h => ?_) (fun h => ?_)))
  · have hl : p.length = 1 := by have := beq_iff_eq.1 h; omega
    obtain ⟨s, h1, h2⟩ := hp.at (i := 0) (by omega)
    repeat' first
      | exact ⟨_, rfl⟩
      | refine wp_need ?_
      | refine ⟨s, ⟨by decide, h1⟩, ?_⟩
      | refine wp_if2 (fun h => ?_) (fun h => ?_)
  · repeat' first
      | exact ⟨_, rfl⟩
      | refine wp_need ?_
end Go.Proofs.Ck
end

section
/- the checks of nodes: each ends well or with an error -/
open Go Go.Eng
namespace Go.Proofs.Ck
set_option linter.unusedVariables false
set_option linter.unusedSimpArgs false
set_option maxRecDepth 100000
section
variable {QD : List (St → Prop)} {QR : CRes → Prop}
theorem wp_parts {k : Int} {K : Int → Int → Int → KT} (h : ∀ a b c, (K a b c).wp Pg cfg0 evp QD QR) :
    (KT.exI fun a => .exI fun b => .exI fun c => .call f_tree_parts [vI k] .none [] ⟨.ret (.tuple [vI a, vI b, vI c]), .none, []⟩ (K a b c)).wp Pg cfg0 evp QD QR := by
  obtain ⟨a, b, c, h1⟩ := c_parts k
  exact ⟨a, b, c, h1, h a b c⟩
end
theorem e_Ty_ty {l : List (List AV)} (hl : l.length < SMALL) (hf : ∀ r ∈ l, ∃ (k : Int) (n : ByteArray) (p : List (List AV)) (a : List (List AV)), r = [vI k, vS n, .slice 1 p .no, .slice 4 a .no] ∧ ∃ e', e' ≠ 4 ∧ evp f_tree_ty [.agg [vI k, vS n, .slice 1 p .no, .slice 4 a .no]] .none [] = some ⟨oc e', .none, []⟩) : ∃ e, e ≠ 4 ∧ evp f_tree_each_api_Ty [.slice 4 l .no, .func (.func f_tree_ty) [] []] .none [] = some ⟨oc e, .none, []⟩ := by
  unfold SMALL at hl
  refine kt2_oc ?_
  have key : (X_eachTy_ty l).wp Pg cfg0 evp [] (fun r => ∃ e, e ≠ 4 ∧ r = ⟨oc e, .none, []⟩) := by
    refine loop2 (fun i : Nat => ⟨tm2 16 [(1, (.func (.func f_tree_ty) [] [])), (6, (.slice 4 (l) .no)), (7, (vI ((↑l.length : Int)))), (8, (vI i))], lm2 16 [], ⟨[], [], .none, 0⟩⟩) (fun i => i ≤ l.length) (fun i => l.length - i) 0 (by kernel_rfl) (Nat.zero_le _) ?_
    intro i hi
    refine wp_eq2 (X_eachTy_tyR_eq l i) ?_
    refine wp_if2 (fun h => ?_) (fun h => ?_)
    · have h := of_decide_eq_true h
      obtain ⟨k, n, p, a, h1, hx⟩ := hf l[i] (List.getElem_mem (by omega))
      have h2 : l[i]? = some [vI k, vS n, .slice 1 p .no, .slice 4 a .no] := by rw [List.getElem?_eq_getElem (by omega), h1]
      rw [kw_succ (x := i) (by omega)]
      refine ⟨k, n, p, a, ⟨Int.natCast_nonneg i, h2⟩, wp_alt hx ?_ (fun er he => ?_)⟩
      · exact wp_done ⟨i + 1, ⟨by omega, by omega⟩, rfl⟩
      · exact wp_out (wp_need (oc_pan he))
    · exact wp_out (wp_need oc_ret)
  have hk : kt2 f_tree_each_api_Ty [.slice 4 l .no, .func (.func f_tree_ty) [] []] [] = X_eachTy_ty l := by kernel_rfl
  exact wp_eq2 hk key
theorem e_string_lowName {l : List (List AV)} (hl : l.length < SMALL) (hf : ∀ r ∈ l, ∃ (s : ByteArray), r = [vS s] ∧ ∃ e', e' ≠ 4 ∧ evp f_tree_lowName [vS s] .none [] = some ⟨oc e', .none, []⟩) : ∃ e, e ≠ 4 ∧ evp f_tree_each_string [.slice 1 l .no, .func (.func f_tree_lowName) [] []] .none [] = some ⟨oc e, .none, []⟩ := by
  unfold SMALL at hl
  refine kt2_oc ?_
  have key : (X_eachstring_lowName l).wp Pg cfg0 evp [] (fun r => ∃ e, e ≠ 4 ∧ r = ⟨oc e, .none, []⟩) := by
    refine loop2 (fun i : Nat => ⟨tm2 16 [(1, (.func (.func f_tree_lowName) [] [])), (6, (.slice 1 (l) .no)), (7, (vI ((↑l.length : Int)))), (8, (vI i))], lm2 16 [], ⟨[], [], .none, 0⟩⟩) (fun i => i ≤ l.length) (fun i => l.length - i) 0 (by kernel_rfl) (Nat.zero_le _) ?_
    intro i hi
    refine wp_eq2 (X_eachstring_lowNameR_eq l i) ?_
    refine wp_if2 (fun h => ?_) (fun h => ?_)
    · have h := of_decide_eq_true h
      obtain ⟨s, h1, hx⟩ := hf l[i] (List.getElem_mem (by omega))
      have h2 : l[i]? = some [vS s] := by rw [List.getElem?_eq_getElem (by omega), h1]
      rw [kw_succ (x := i) (by omega)]
      refine ⟨s, ⟨Int.natCast_nonneg i, h2⟩, wp_alt hx ?_ (fun er he => ?_)⟩
      · exact wp_done ⟨i + 1, ⟨by omega, by omega⟩, rfl⟩
      · exact wp_out (wp_need (oc_pan he))
    · exact wp_out (wp_need oc_ret)
  have hk : kt2 f_tree_each_string [.slice 1 l .no, .func (.func f_tree_lowName) [] []] [] = X_eachstring_lowName l := by kernel_rfl
  exact wp_eq2 hk key
theorem e_string_highName {l : List (List AV)} (hl : l.length < SMALL) (hf : ∀ r ∈ l, ∃ (s : ByteArray), r = [vS s] ∧ ∃ e', e' ≠ 4 ∧ evp f_tree_highName [vS s] .none [] = some ⟨oc e', .none, []⟩) : ∃ e, e ≠ 4 ∧ evp f_tree_each_string [.slice 1 l .no, .func (.func f_tree_highName) [] []] .none [] = some ⟨oc e, .none, []⟩ := by
  unfold SMALL at hl
  refine kt2_oc ?_
  have key : (X_eachstring_highName l).wp Pg cfg0 evp [] (fun r => ∃ e, e ≠ 4 ∧ r = ⟨oc e, .none, []⟩) := by
    refine loop2 (fun i : Nat => ⟨tm2 16 [(1, (.func (.func f_tree_highName) [] [])), (6, (.slice 1 (l) .no)), (7, (vI ((↑l.length : Int)))), (8, (vI i))], lm2 16 [], ⟨[], [], .none, 0⟩⟩) (fun i => i ≤ l.length) (fun i => l.length - i) 0 (by kernel_rfl) (Nat.zero_le _) ?_
    intro i hi
    refine wp_eq2 (X_eachstring_highNameR_eq l i) ?_
    refine wp_if2 (fun h => ?_) (fun h => ?_)
    · have h := of_decide_eq_true h
      obtain ⟨s, h1, hx⟩ := hf l[i] (List.getElem_mem (by omega))
      have h2 : l[i]? = some [vS s] := by rw [List.getElem?_eq_getElem (by omega), h1]
      rw [kw_succ (x := i) (by omega)]
      refine ⟨s, ⟨Int.natCast_nonneg i, h2⟩, wp_alt hx ?_ (fun er he => ?_)⟩
      · exact wp_done ⟨i + 1, ⟨by omega, by omega⟩, rfl⟩
      · exact wp_out (wp_need (oc_pan he))
    · exact wp_out (wp_need oc_ret)
  have hk : kt2 f_tree_each_string [.slice 1 l .no, .func (.func f_tree_highName) [] []] [] = X_eachstring_highName l := by kernel_rfl
  exact wp_eq2 hk key
theorem c_eachlow {p : List (List AV)} (hp : Strs p) (hl : p.length < SMALL) : ∃ e, e ≠ 4 ∧ evp f_tree_each_string [.slice 1 p .no, .func (.func f_tree_lowName) [] []] .none [] = some ⟨oc e, .none, []⟩ :=
  e_string_lowName hl fun r hr => by obtain ⟨s, h1, h2⟩ := hp r hr; exact ⟨s, h1, c_lowName h2⟩
theorem c_eachhigh {p : List (List AV)} (hp : Strs p) (hl : p.length < SMALL) : ∃ e, e ≠ 4 ∧ evp f_tree_each_string [.slice 1 p .no, .func (.func f_tree_highName) [] []] .none [] = some ⟨oc e, .none, []⟩ :=
  e_string_highName hl fun r hr => by obtain ⟨s, h1, h2⟩ := hp r hr; exact ⟨s, h1, c_highName h2⟩
theorem a_Ty {k : Int} {n : ByteArray} {p : List (List AV)} {a : List (List AV)} (hn : n.size < SMALL) (hp : Strs p) (lp : p.length < SMALL) (ea_ty : ∃ er, er ≠ 4 ∧ evp f_tree_each_api_Ty [.slice 4 a .no, .func (.func f_tree_ty) [] []] .none [] = some ⟨oc er, .none, []⟩) : ∃ er, er ≠ 4 ∧ evp f_tree_ty [.agg [vI k, vS n, .slice 1 p .no, .slice 4 a .no]] .none [] = some ⟨oc er, .none, []⟩ := by
  have w4 : ((X_Tys3 k n p a).K ⟨tm2 69 [(1, (.ref [(vI (k)), (vS (n)), (.slice 1 (p) .no), (.slice 4 (a) .no)]))], lm2 69 [], ⟨[], [], .none, 0⟩⟩).wp Pg cfg0 evp [] (fun r => ∃ er, er ≠ 4 ∧ r = ⟨oc er, .none, []⟩) := wp_eq2 (X_Tys4_eq k n p a) (by
    repeat' first
      | exact oc_ret
      | exact oc_pan (by decide)
      | exact oc_pan (by assumption)
      | refine wp_need ?_
      | refine wp_out ?_
      | refine wp_stage ?_
      | refine wp_alt (c_ask _) ?_ (fun er he => ?_)
      | refine wp_alt (c_count _ _ _) ?_ (fun er he => ?_)
      | refine wp_parts (fun i0 j0 k0 => ?_)
      | refine wp_alt (c_lowName hn) ?_ (fun er he => ?_)
      | refine wp_alt (c_highName hn) ?_ (fun er he => ?_)
      | refine wp_callB2 (c_Tyvar hn) (fun b => ?_)
      | refine wp_alt (c_lowPath hp) ?_ (fun er he => ?_)
      | refine wp_alt (c_highPath hp) ?_ (fun er he => ?_)
      | refine wp_callB2 (c_basic hp) (fun b => ?_)
      | refine wp_alt (c_eachlow hp lp) ?_ (fun er he => ?_)
      | refine wp_alt (c_eachhigh hp lp) ?_ (fun er he => ?_)
      | refine wp_alt ea_ty ?_ (fun er he => ?_)
      | refine wp_if2 (fun h => ?_) (fun h => ?_))
  have w3 : ((X_Tys2 k n p a).K ⟨tm2 69 [(1, (.ref [(vI (k)), (vS (n)), (.slice 1 (p) .no), (.slice 4 (a) .no)]))], lm2 69 [], ⟨[], [], .none, 0⟩⟩).wp Pg cfg0 evp [] (fun r => ∃ er, er ≠ 4 ∧ r = ⟨oc er, .none, []⟩) := wp_eq2 (X_Tys3_eq k n p a) (by
    repeat' first
      | exact oc_ret
      | exact oc_pan (by decide)
      | exact oc_pan (by assumption)
      | exact wp_done (w4)
      | refine wp_need ?_
      | refine wp_out ?_
      | refine wp_stage ?_
      | refine wp_alt (c_ask _) ?_ (fun er he => ?_)
      | refine wp_alt (c_count _ _ _) ?_ (fun er he => ?_)
      | refine wp_parts (fun i0 j0 k0 => ?_)
      | refine wp_alt (c_lowName hn) ?_ (fun er he => ?_)
      | refine wp_alt (c_highName hn) ?_ (fun er he => ?_)
      | refine wp_callB2 (c_Tyvar hn) (fun b => ?_)
      | refine wp_alt (c_lowPath hp) ?_ (fun er he => ?_)
      | refine wp_alt (c_highPath hp) ?_ (fun er he => ?_)
      | refine wp_callB2 (c_basic hp) (fun b => ?_)
      | refine wp_alt (c_eachlow hp lp) ?_ (fun er he => ?_)
      | refine wp_alt (c_eachhigh hp lp) ?_ (fun er he => ?_)
      | refine wp_alt ea_ty ?_ (fun er he => ?_)
      | refine wp_if2 (fun h => ?_) (fun h => ?_))
  have w2 : ((X_Tys1 k n p a).K ⟨tm2 69 [(1, (.ref [(vI (k)), (vS (n)), (.slice 1 (p) .no), (.slice 4 (a) .no)]))], lm2 69 [], ⟨[], [], .none, 0⟩⟩).wp Pg cfg0 evp [] (fun r => ∃ er, er ≠ 4 ∧ r = ⟨oc er, .none, []⟩) := wp_eq2 (X_Tys2_eq k n p a) (by
    repeat' first
      | exact oc_ret
      | exact oc_pan (by decide)
      | exact oc_pan (by assumption)
      | exact wp_done (w4)
      | exact wp_done (w3)
      | refine wp_need ?_
      | refine wp_out ?_
      | refine wp_stage ?_
      | refine wp_alt (c_ask _) ?_ (fun er he => ?_)
      | refine wp_alt (c_count _ _ _) ?_ (fun er he => ?_)
      | refine wp_parts (fun i0 j0 k0 => ?_)
      | refine wp_alt (c_lowName hn) ?_ (fun er he => ?_)
      | refine wp_alt (c_highName hn) ?_ (fun er he => ?_)
      | refine wp_callB2 (c_Tyvar hn) (fun b => ?_)
      | refine wp_alt (c_lowPath hp) ?_ (fun er he => ?_)
      | refine wp_alt (c_highPath hp) ?_ (fun er he => ?_)
      | refine wp_callB2 (c_basic hp) (fun b => ?_)
      | refine wp_alt (c_eachlow hp lp) ?_ (fun er he => ?_)
      | refine wp_alt (c_eachhigh hp lp) ?_ (fun er he => ?_)
      | refine wp_alt ea_ty ?_ (fun er he => ?_)
      | refine wp_if2 (fun h => ?_) (fun h => ?_))
  have w1 : ((X_Ty k n p a).K ⟨tm2 69 [(1, (.ref [(vI (k)), (vS (n)), (.slice 1 (p) .no), (.slice 4 (a) .no)]))], lm2 69 [], ⟨[], [], .none, 0⟩⟩).wp Pg cfg0 evp [] (fun r => ∃ er, er ≠ 4 ∧ r = ⟨oc er, .none, []⟩) := wp_eq2 (X_Tys1_eq k n p a) (by
    repeat' first
      | exact oc_ret
      | exact oc_pan (by decide)
      | exact oc_pan (by assumption)
      | exact wp_done (w4)
      | exact wp_done (w3)
      | exact wp_done (w2)
      | refine wp_need ?_
      | refine wp_out ?_
      | refine wp_stage ?_
      | refine wp_alt (c_ask _) ?_ (fun er he => ?_)
      | refine wp_alt (c_count _ _ _) ?_ (fun er he => ?_)
      | refine wp_parts (fun i0 j0 k0 => ?_)
      | refine wp_alt (c_lowName hn) ?_ (fun er he => ?_)
      | refine wp_alt (c_highName hn) ?_ (fun er he => ?_)
      | refine wp_callB2 (c_Tyvar hn) (fun b => ?_)
      | refine wp_alt (c_lowPath hp) ?_ (fun er he => ?_)
      | refine wp_alt (c_highPath hp) ?_ (fun er he => ?_)
      | refine wp_callB2 (c_basic hp) (fun b => ?_)
      | refine wp_alt (c_eachlow hp lp) ?_ (fun er he => ?_)
      | refine wp_alt (c_eachhigh hp lp) ?_ (fun er he => ?_)
      | refine wp_alt ea_ty ?_ (fun er he => ?_)
      | refine wp_if2 (fun h => ?_) (fun h => ?_))
  exact kt2_oc (wp_eq2 (X_Ty_eq k n p a) (by
    repeat' first
      | exact oc_ret
      | exact oc_pan (by decide)
      | exact oc_pan (by assumption)
      | exact wp_done (w4)
      | exact wp_done (w3)
      | exact wp_done (w2)
      | exact wp_done (w1)
      | refine wp_need ?_
      | refine wp_out ?_
      | refine wp_stage ?_
      | refine wp_alt (c_ask _) ?_ (fun er he => ?_)
      | refine wp_alt (c_count _ _ _) ?_ (fun er he => ?_)
      | refine wp_parts (fun i0 j0 k0 => ?_)
      | refine wp_alt (c_lowName hn) ?_ (fun er he => ?_)
      | refine wp_alt (c_highName hn) ?_ (fun er he => ?_)
      | refine wp_callB2 (c_Tyvar hn) (fun b => ?_)
      | refine wp_alt (c_lowPath hp) ?_ (fun er he => ?_)
      | refine wp_alt (c_highPath hp) ?_ (fun er he => ?_)
      | refine wp_callB2 (c_basic hp) (fun b => ?_)
      | refine wp_alt (c_eachlow hp lp) ?_ (fun er he => ?_)
      | refine wp_alt (c_eachhigh hp lp) ?_ (fun er he => ?_)
      | refine wp_alt ea_ty ?_ (fun er he => ?_)
      | refine wp_if2 (fun h => ?_) (fun h => ?_)))
end Go.Proofs.Ck
end

section
/- what the walker does: nodes counted, the greatest depth -/
open Go Go.Eng
namespace Go.Proofs.Ck
set_option linter.unusedVariables false
set_option linter.unusedSimpArgs false
set_option maxRecDepth 100000
def BIG : Nat := 4611686018427387904
def WOk (f : Nat) (arg : List Row → List AV) (ans : AV) (ty : Nat) (N : Nat) : Prop := ∀ l : List Row, cnts l ≤ N → (∀ r ∈ l, Has Pg ty r) → ∀ n d m : Nat, n + cnts l < BIG → d + cnts l < BIG →
  evp f (arg l) .none [[vI n, vI d, vI m]] = some ⟨.ret ans, .none, [[vI (n + cnts l : Nat), vI d, vI (wms m d l : Nat)]]⟩
structure WAll (N : Nat) : Prop where
  tys : WOk f_tree_walker_tys (fun l => [.ptr 0 0, .slice 4 (avss l) .no]) (.ptr 0 0) y_api_Ty N
@[irreducible] noncomputable def K_tys (rows : List (List AV)) (n d m : Int) : KT := kt0 f_tree_walker_tys [.ptr 0 0, .slice 4 rows .no] [[vI n, vI d, vI m]]
theorem KR_tys_eq (rows : List
 (List AV)) (n : Int) (d : Int) (m : Int) (n' : Int) (d' : Int) (m' : Int) (i : Nat) : KT.round Pg cfg0 rs0 kc0 (K_tys rows n d m) { tmps := tm2 16 [(1, AV.func (Fn.func f_tree_walker_tys_1) [] [AV.ref [AV.ptr 0 0]]), (6, AV.slice 4 rows Own.no), (7, vI (↑rows.length : Int)), (8, vI (↑i : Int))], lh := lm2 16 [], g := { H := [[vI n', vI d', vI m']], defers := [], rm := RM.none, base := 1 } } =
 (.branch (decide ((↑i : Int) < (↑rows.length : Int)))
 (.exI fun i1 =>
 (.exS fun s =>
 (.exR fun l =>
 (.exR fun l1 =>
 (.row (rows) ((↑i : Int)) [(vI (i1)), (vS (s)), (.slice 1 (l) .no), (.slice 4 (l1) .no)]
 (.exI fun i2 =>
 (.exI fun i3 =>
 (.exI fun i4 =>
 (.call f_tree_walker_tys [(.ptr 0 0), (.slice 4 (l1) .no)] .none [[(vI (IntKind.i64.wrap (n' + 1))), (vI (IntKind.i64.wrap (d' + 1))), (vI (if IntKind.i64.wrap (d' + 1) > m' then IntKind.i64.wrap (d' + 1) else m'))]] ⟨(.ret (.ptr 0 0)), .none, [[(vI (i2)), (vI (i3)), (vI (i4))]]⟩
 (.need true
 (.need true
 (.need true
 (.done ⟨tm2 16 [(1, (.func (.func f_tree_walker_tys_1) [] [(.ref [(.ptr 0 0)])])), (6, (.slice 4 (rows) .no)), (7, (vI ((↑rows.length : Int)))), (8, (vI (IntKind.i64.wrap ((↑i : Int) + 1))))], lm2 16 [], ⟨[[(vI (i2)), (vI (IntKind.i64.wrap (i3 - 1))), (vI (i4))]], [], .none, 1⟩⟩)))))))))))))
 (.out (.need true
 (.need true
 (.ret ⟨(.ret (.ptr 0 0)), .none, [[(vI (n')), (vI (d')), (vI (m'))]]⟩))))) := by kernel_rfl
theorem K_tys_ev {rows : List (List AV)} {n d m : Int} {r : CRes} (h : (K_tys rows n d m).wp Pg cfg0 evp [] (fun x => x = r)) : evp f_tree_walker_tys [.ptr 0 0, .slice 4 rows .no] .none [[vI n, vI d, vI m]] = some r := by
  delta K_tys at h
  exact kt0_ev h
theorem cntR_Ty (k : Int) (n : ByteArray) (p : List Row) (a : List Row) : cntR [.int .i64 k, .str n, .rows 1 p, .rows 4 a] = cnts a := by simp [cntR, cntC]
theorem wmR_Ty (k : Int) (n : ByteArray) (p : List Row) (a : List Row) (m0 d0 : Nat) : wmR m0 d0 [.int .i64 k, .str n, .rows 1 p, .rows 4 a] = (wms m0 d0 a) := by simp [wmR, wmC]
theorem walk_tys {N : Nat} (ih : ∀ M, M < N → WAll M) : WOk f_tree_walker_tys (fun l => [.ptr 0 0, .slice 4 (avss l) .no]) (.ptr 0 0) y_api_Ty N := by
  intro l hl ht n d m hn hd
  unfold BIG at hn hd
  refine K_tys_ev ?_
  refine loop0 (t := K_tys (avss l) n d m) (fun i : Nat => ⟨tm2 16 [(1, (.func (.func f_tree_walker_tys_1) [] [(.ref [(.ptr 0 0)])])), (6, (.slice 4 (avss l) .no)), (7, (vI (avss l).length)), (8, (vI i))], lm2 16 [], ⟨[[vI (n + cnts (l.take i) : Nat), vI d, vI (wms m d (l.take i) : Nat)]], [], .none, 1⟩⟩) (fun i => i ≤ l.length) (fun i => l.length - i) 0 (by kernel_rfl) (Nat.zero_le _) ?_
  intro i hi
  refine wp_eq2 (KR_tys_eq (avss l) n d m (n + cnts (l.take i) : Nat) d (wms m d (l.take i) : Nat) i) ?_
  rw [avss_len]
  refine wp_if2 (fun h => ?_) (fun h => ?_)
  · have h := of_decide_eq_true h
    obtain ⟨r, hr⟩ : ∃ r, l[i]? = some r := ⟨_, List.getElem?_eq_getElem (by omega : i < l.length)⟩
    have hl2 := (List.getElem?_eq_some_iff.1 hr).1
    obtain ⟨xk, xn, xp, xa, rfl, t_xp, t_xa⟩ := inv_Ty (ht r (List.mem_of_getElem? hr))
    have e0 := cnts_le hr
    rw [cntR_Ty] at e0
    simp only [oneR] at e0
    have en : n + cnts (l.take (i + 1)) = n + cnts (l.take i) + 1 + cnts xa := by rw [cnts_take hr, cntR_Ty]; simp only [oneR]; omega
    have em := wms_take (m := m) (d := d) hr
    rw [wmR_Ty] at em
    rw [kw_succ (x := n + cnts (l.take i)) (by omega), kw_succ (x := d) (by omega), kmax, kw_succ (x := i) (by have := len_cnts fun r hr => ne_Ty (ht r hr); omega)]
    refine ⟨xk, xn, avss xp, avss xa, ⟨Int.natCast_nonneg i, avss_at hr⟩, ?_⟩
    refine ⟨_, _, _, (ih (cnts xa) (by omega)).tys xa (Nat.le_refl _) t_xa _ _ _ (by unfold BIG; omega) (by unfold BIG; omega), ?_⟩
    refine ⟨rfl, rfl, rfl, i + 1, ⟨by omega, by omega⟩, ?_⟩
    rw [kw_pred (x := d) (by omega), en, em]
  · have h := of_decide_eq_false h
    have hil : i = l.length := by omega
    subst hil
    rw [List.take_length] at *
    exact ⟨rfl, rfl, rfl⟩
theorem walk_all : ∀ N, WAll N := by
  intro N
  induction N using Nat.strongRecOn with
  | _ N ih => exact ⟨walk_tys ih⟩
end Go.Proofs.Ck
end

section
/- the checks of plain data's nodes end well or with an error -/
open Go Go.Eng
namespace Go.Proofs.Ck
set_option linter.unusedVariables false
set_option linter.unusedSimpArgs false
set_option maxRecDepth 100000
theorem mem_avss {l : List Row} {r : List AV} (h : r ∈ avss l) : ∃ x ∈ l, r = avs x := by
  rw [avss_map] at h
  obtain ⟨x, hx, rfl⟩ := List.mem_map.1 h
  exact ⟨x, hx, rfl⟩
theorem len_bulkss {l : List Row} (h : ∀ r ∈ l, r ≠ []) : l.length ≤ bulkss l := by
  induction l with
  | nil => simp
  | cons r l ih =>
    have h1 := ih fun x hx => h x (by simp [hx])
    have h2 := len_bulks r
    have h3 : 0 < r.length := List.length_pos_iff.2 (h r (by simp))
    simp only [List.length_cons, bulkss]; omega
theorem strs_ok {p : List Row} (h : ∀ x ∈ p, Has Pg y_string x) (hb : bulkss p < SMALL) : Strs (avss p) := by
  intro r hr
  obtain ⟨x, hx, rfl⟩ := mem_avss hr
  obtain ⟨s, rfl, _⟩ := inv_string (h x hx)
  have := bulkss_mem hx
  simp only [bulks, CT.bulk] at this
  exact ⟨s, rfl, by omega⟩
theorem strs_len {p : List Row} (h : ∀ x ∈ p, Has Pg y_string x) (hb : bulkss p < SMALL) : (avss p).length < SMALL := by
  have := len_bulkss fun r hr => (by obtain ⟨s, rfl, _⟩ := inv_string (h r hr); simp : r ≠ [])
  rw [avss_len]; omega
theorem cnts_mem {l : List Row} {r : Row} (h : r ∈ l) : oneR r + cntR r ≤ cnts l := by
  induction l with
  | nil => cases h
  | cons a l ih =>
    rw [cnts]
    rcases List.mem_cons.1 h with rfl | h
    · omega
    · have := ih h; omega
def CkOk (f t N : Nat) : Prop := ∀ r : Row, oneR r + cntR r ≤ N → Has Pg t r → bulks r < SMALL → ∃ er, er ≠ 4 ∧ evp f [.agg (avs r)] .none [] = some ⟨oc er, .none, []⟩
structure CkAll (N : Nat) : Prop where
  ty : CkOk f_tree_ty y_api_Ty N
theorem l_ty {N : Nat} (ih : ∀ M, M < N → CkAll M) {l : List Row} (hc : cnts l < N) (ht : ∀ r ∈ l, Has Pg y_api_Ty r) (hb : bulkss l < SMALL) :
    ∃ er, er ≠ 4 ∧ evp f_tree_each_api_Ty [.slice 4 (avss l) .no, .func (.func f_tree_ty) [] []] .none [] = some ⟨oc er, .none, []⟩ := by
  have hl := len_bulkss fun r hr => ne_Ty (ht r hr)
  refine e_Ty_ty (by rw [avss_len]; omega) fun r hr => ?_
  obtain ⟨x, hx, rfl⟩ := mem_avss hr
  have h1 := cnts_mem hx
  have h2 := bulkss_mem hx
  have h3 := (ih (cnts l) hc).ty x (by omega) (ht x hx) (by omega)
  obtain ⟨xk, xn, xp, xa, rfl, _⟩ := inv_Ty (ht x hx)
  exact ⟨xk, xn, avss xp, avss xa, rfl, h3⟩
theorem k_ty {N : Nat} (ih : ∀ M, M < N → CkAll M) : CkOk f_tree_ty y_api_Ty N := by
  intro r hN ht hb
  obtain ⟨xk, xn, xp, xa, rfl, t_p, t_a⟩ := inv_Ty ht
  rw [cntR_Ty] at hN
  simp only [oneR] at hN
  simp only [bulks, CT.bulk] at hb
  exact a_Ty (by omega) (strs_ok t_p (by omega)) (strs_len t_p (by omega)) (l_ty ih (by omega) t_a (by omega))
theorem ck_all : ∀ N, CkAll N := by
  intro N
  induction N using Nat.strongRecOn with
  | _ N ih => exact ⟨k_ty ih⟩
end Go.Proofs.Ck
end

section
/- the walkers, of a list that was just made -/
open Go Go.Eng
namespace Go.Proofs.Ck
set_option linter.unusedVariables false
set_option linter.unusedSimpArgs false
set_option maxRecDepth 100000
@[irreducible] noncomputable def K_tysf (rows : List (List AV)) (n d m : Int) : KT := kt0 f_tree_walker_tys [.ptr 0 0, .slice 4 rows .full] [[vI n, vI d, vI m]]
theorem KR_tysf_eq (rows : List
 (List AV)) (n : Int) (d : Int) (m : Int) (n' : Int) (d' : Int) (m' : Int) (i : Nat) : KT.round Pg cfg0 rs0 kc0 (K_tysf rows n d m) { tmps := tm2 16 [(1, AV.func (Fn.func f_tree_walker_tys_1) [] [AV.ref [AV.ptr 0 0]]), (6, AV.slice 4 rows Own.full), (7, vI (↑rows.length : Int)), (8, vI (↑i : Int))], lh := lm2 16 [], g := { H := [[vI n', vI d', vI m']], defers := [], rm := RM.none, base := 1 } } =
 (.branch (decide ((↑i : Int) < (↑rows.length : Int)))
 (.exI fun i1 =>
 (.exS fun s =>
 (.exR fun l =>
 (.exR fun l1 =>
 (.row (rows) ((↑i : Int)) [(vI (i1)), (vS (s)), (.slice 1 (l) .no), (.slice 4 (l1) .no)]
 (.exI fun i2 =>
 (.exI fun i3 =>
 (.exI fun i4 =>
 (.call f_tree_walker_tys [(.ptr 0 0), (.slice 4 (l1) .no)] .none [[(vI (IntKind.i64.wrap (n' + 1))), (vI (IntKind.i64.wrap (d' + 1))), (vI (if IntKind.i64.wrap (d' + 1) > m' then IntKind.i64.wrap (d' + 1) else m'))]] ⟨(.ret (.ptr 0 0)), .none, [[(vI (i2)), (vI (i3)), (vI (i4))]]⟩
 (.need true
 (.need true
 (.need true
 (.done ⟨tm2 16 [(1, (.func (.func f_tree_walker_tys_1) [] [(.ref [(.ptr 0 0)])])), (6, (.slice 4 (rows) .full)), (7, (vI ((↑rows.length : Int)))), (8, (vI (IntKind.i64.wrap ((↑i : Int) + 1))))], lm2 16 [], ⟨[[(vI (i2)), (vI (IntKind.i64.wrap (i3 - 1))), (vI (i4))]], [], .none, 1⟩⟩)))))))))))))
 (.out (.need true
 (.need true
 (.ret ⟨(.ret (.ptr 0 0)), .none, [[(vI (n')), (vI (d')), (vI (m'))]]⟩))))) := by kernel_rfl
theorem K_tysf_ev {rows : List (List AV)} {n d m : Int} {r : CRes} (h : (K_tysf rows n d m).wp Pg cfg0 evp [] (fun x => x = r)) : evp f_tree_walker_tys [.ptr 0 0, .slice 4 rows .full] .none [[vI n, vI d, vI m]] = some r := by
  delta K_tysf at h
  exact kt0_ev h
theorem walk_tysf {N : Nat} (ih : ∀ M, M < N → WAll M) : WOk f_tree_walker_tys (fun l => [.ptr 0 0, .slice 4 (avss l) .full]) (.ptr 0 0) y_api_Ty N := by
  intro l hl ht n d m hn hd
  unfold BIG at hn hd
  refine K_tysf_ev ?_
  refine loop0 (t := K_tysf (avss l) n d m) (fun i : Nat => ⟨tm2 16 [(1, (.func (.func f_tree_walker_tys_1) [] [(.ref [(.ptr 0 0)])])), (6, (.slice 4 (avss l) .full)), (7, (vI (avss l).length)), (8, (vI i))], lm2 16 [], ⟨[[vI (n + cnts (l.take i) : Nat), vI d, vI (wms m d (l.take i) : Nat)]], [], .none, 1⟩⟩) (fun i => i ≤ l.length) (fun i => l.length - i) 0 (by kernel_rfl) (Nat.zero_le _) ?_
  intro i hi
  refine wp_eq2 (KR_tysf_eq (avss l) n d m (n + cnts (l.take i) : Nat) d (wms m d (l.take i) : Nat) i) ?_
  rw [avss_len]
  refine wp_if2 (fun h => ?_) (fun h => ?_)
  · have h := of_decide_eq_true h
    obtain ⟨r, hr⟩ : ∃ r, l[i]? = some r := ⟨_, List.getElem?_eq_getElem (by omega : i < l.length)⟩
    have hl2 := (List.getElem?_eq_some_iff.1 hr).1
    obtain ⟨xk, xn, xp, xa, rfl, t_xp, t_xa⟩ := inv_Ty (ht r (List.mem_of_getElem? hr))
    have e0 := cnts_le hr
    rw [cntR_Ty] at e0
    simp only [oneR] at e0
    have en : n + cnts (l.take (i + 1)) = n + cnts (l.take i) + 1 + cnts xa := by rw [cnts_take hr, cntR_Ty]; simp only [oneR]; omega
    have em := wms_take (m := m) (d := d) hr
    rw [wmR_Ty] at em
    rw [kw_succ (x := n + cnts (l.take i)) (by omega), kw_succ (x := d) (by omega), kmax, kw_succ (x := i) (by have := len_cnts fun r hr => ne_Ty (ht r hr); omega)]
    refine ⟨xk, xn, avss xp, avss xa, ⟨Int.natCast_nonneg i, avss_at hr⟩, ?_⟩
    refine ⟨_, _, _, (ih (cnts xa) (by omega)).tys xa (Nat.le_refl _) t_xa _ _ _ (by unfold BIG; omega) (by unfold BIG; omega), ?_⟩
    refine ⟨rfl, rfl, rfl, i + 1, ⟨by omega, by omega⟩, ?_⟩
    rw [kw_pred (x := d) (by omega), en, em]
  · have h := of_decide_eq_false h
    have hil : i = l.length := by omega
    subst hil
    rw [List.take_length] at *
    exact ⟨rfl, rfl, rfl⟩
end Go.Proofs.Ck
end

section
/- PARSE: the program's RightTy: it answers ErrDeep just if a type is nested too deep -/
set_option linter.unusedVariables false
set_option linter.unusedSimpArgs false
set_option maxRecDepth 100000
open Go Go.Eng Go.Pa
open Go.Lx (T Tok)
namespace Go.Proofs
theorem has_fields {t : TypeId} {l : Row} {ts : List TypeId} (ht : structTys Pg t = some ts) (h : HasF Pg ts l) : Has Pg t l := by
  unfold structTys at ht
  split at ht
  · rename_i hu
    simp only [Option.some.injEq] at ht; subst ht
    exact .struct hu h
  · cases ht
theorem has_rows {t e : TypeId} {l : List Row} {sz : Nat} (hu : Pg.underlying t = some (.slice e)) (hc : Pg.cellsOf e = sz) (hl : l.length ≤ maxLen) (h : ∀ r ∈ l, Has Pg e r) (hn : ∀ r ∈ l, r.length = sz) : Has Pg t [.rows sz l] := by
  subst hc; exact .slice hu hl h hn
theorem has_str {s : T} (h : nameOk s) : Has Pg y_string [cs s] := .str Ck.u_string (by rw [bsz]; have : s.length ≤ 4096 := h; unfold maxLen; omega)
theorem has_int {n : Int} (h : 0 ≤ n ∧ n < 9223372036854775808) : Has Pg y_int [ci n] := .int Ck.u_int (by simp [Lit.wf, IntKind.min, IntKind.max, IntKind.bits, IntKind.signed]; omega)
theorem has_path {p : List T} (h : pathOk p) : Has Pg y_s_string [cp p] := has_rows Ck.u_s_string Ck.c_string (by simp; have := h.1; unfold maxLen; omega) (fun r hr => by
  obtain ⟨t, ht, rfl⟩ := List.mem_map.1 hr
  exact has_str (h.2 t ht)) (fun r hr => by
  obtain ⟨t, ht, rfl⟩ := List.mem_map.1 hr
  rfl)
theorem st_Ty : structTys Pg y_api_Ty = some [y_int, y_string, y_s_string, y_s_api_Ty] := by kernel_rfl
theorem path0 : pathOk [] := ⟨by simp, fun w hw => by cases hw⟩
theorem name0 : nameOk [] := by unfold nameOk; simp
theorem ty_len (t : Ty) : t.row.length = 4 := by cases t <;> rfl
theorem has_ty4 {k : Int} {n : T} {p : List T} {l : List Row} (hk : 0 ≤ k ∧ k < 9223372036854775808) (hn : nameOk n) (hp : pathOk p) (hl : l.length ≤ 2) (h : ∀ r ∈ l, Has Pg y_api_Ty r) (h4 : ∀ r ∈ l, r.length = 4) : Has Pg y_api_Ty [ci k, cs n, cp p, .rows 4 l] :=
  has_fields st_Ty (.cons (a := [ci k]) (has_int hk) (.cons (a := [cs n]) (has_str hn) (.cons (a := [cp p]) (has_path hp) (.cons (a := [.rows 4 l]) (has_rows Ck.u_s_Ty Ck.c_Ty (by unfold maxLen; omega) h h4) .nil))))
theorem has_ty : ∀ t : Ty, t.Ok → Has Pg y_api_Ty t.row
  | .var n, h => has_ty4 (p := []) (by decide) h path0 (by simp) (fun r hr => by cases hr) (fun r hr => by cases hr)
  | .con p, h => has_ty4 (n := []) (by decide) name0 h (by simp) (fun r hr => by cases hr) (fun r hr => by cases hr)
  | .fn a b, h => has_ty4 (n := []) (p := []) (by decide) name0 path0 (by simp) (fun r hr => by
      simp at hr; rcases hr with rfl | rfl
      · exact has_ty a h.1
      · exact has_ty b h.2) (fun r hr => by simp at hr; rcases hr with rfl | rfl <;> exact ty_len _)
  | .pair a b, h => has_ty4 (n := []) (p := []) (by decide) name0 path0 (by simp) (fun r hr => by
      simp at hr; rcases hr with rfl | rfl
      · exact has_ty a h.1
      · exact has_ty b h.2) (fun r hr => by simp at hr; rcases hr with rfl | rfl <;> exact ty_len _)
/-! ### as the walker counts -/
theorem cnt_row : ∀ t : Ty, Ck.cntR t.row + 1 = t.cnt
  | .var n => by simp [Ty.row, Ck.cntR, Ck.cntC, Ck.cnts, Ty.cnt]
  | .con p => by simp [Ty.row, cp, Ck.cntR, Ck.cntC, Ck.cnts, Ty.cnt]
  | .fn a b => by
    have h1 := cnt_row a; have h2 := cnt_row b
    have e1 : Ck.oneR a.row = 1 := by cases a <;> rfl
    have e2 : Ck.oneR b.row = 1 := by cases b <;> rfl
    simp only [Ty.row, Ck.cntR, Ck.cntC, Ck.cnts, Ty.cnt, e1, e2]; simp; omega
  | .pair a b => by
    have h1 := cnt_row a; have h2 := cnt_row b
    have e1 : Ck.oneR a.row = 1 := by cases a <;> rfl
    have e2 : Ck.oneR b.row = 1 := by cases b <;> rfl
    simp only [Ty.row, Ck.cntR, Ck.cntC, Ck.cnts, Ty.cnt, e1, e2]; simp; omega
theorem dep_row : ∀ (t : Ty) (m d : Nat), Ck.wmR (max m (d + 1)) (d + 1) t.row = max m (d + t.dep)
  | .var n, m, d => by simp [Ty.row, Ck.wmR, Ck.wmC, Ck.wms, Ty.dep]
  | .con p, m, d => by simp [Ty.row, cp, Ck.wmR, Ck.wmC, Ck.wms, Ty.dep]
  | .fn a b, m, d => by
    have h1 := dep_row a (max m (d + 1)) (d + 1)
    have h2 := dep_row b (max (max m (d + 1)) (d + 1 + a.dep)) (d + 1)
    simp only [Ty.row, Ck.wmR, Ck.wmC, Ck.wms, Ty.dep]
    simp only [if_true, ite_self]
    rw [h1, h2, if_neg (by decide)]; omega
  | .pair a b, m, d => by
    have h1 := dep_row a (max m (d + 1)) (d + 1)
    have h2 := dep_row b (max (max m (d + 1)) (d + 1 + a.dep)) (d + 1)
    simp only [Ty.row, Ck.wmR, Ck.wmC, Ck.wms, Ty.dep]
    simp only [if_true, ite_self]
    rw [h1, h2, if_neg (by decide)]; omega
theorem bulk_path : ∀ {p : List T}, (∀ w ∈ p, nameOk w) → bulkss (p.map fun t => [cs t]) ≤ 5000 * p.length
  | [], _ => by simp [bulkss]
  | t :: p, h => by
    have h1 := bulk_path (p := p) fun w hw => h w (by simp [hw])
    have h2 : t.length ≤ 4096 := h t (by simp)
    simp only [List.map_cons, bulkss, bulks, CT.bulk, bsz, List.length_cons]; omega
theorem bulk_ty : ∀ t : Ty, t.Ok → bulks t.row ≤ 100000 * t.cnt
  | .var n, h => by have : n.length ≤ 4096 := h; simp [Ty.row, bulks, CT.bulk, bulkss, bsz, Ty.cnt]; omega
  | .con p, h => by
    have h1 := bulk_path h.2
    have h2 := h.1
    simp only [Ty.row, cp, bulks, CT.bulk, bulkss, bsz, Ty.cnt, List.length_nil]; omega
  | .fn a b, h => by have h1 := bulk_ty a h.1; have h2 := bulk_ty b h.2; simp only [Ty.row, bulks, CT.bulk, bulkss, bsz, Ty.cnt, List.length_nil]; omega
  | .pair a b, h => by have h1 := bulk_ty a h.1; have h2 := bulk_ty b h.2; simp only [Ty.row, bulks, CT.bulk, bulkss, bsz, Ty.cnt, List.length_nil]; omega
theorem ktc6_is {f : FuncId} {args : List AV} {H : Heap} {r : CRes} (h : (ktc6 f args H).wp Pg cfg0 evp [] (fun x => x = r)) : evp f args .none H = some r := ktc6_ev h
theorem map_ren (ρ : Nat → Nat) (l : Row) : [AV.agg (avs l)].map (AV.ren ρ) = [AV.agg (avs l)] := by simp [AV.ren, ren_avs, rens_map]; rw [← rens_map, ren_avs]
theorem c_RightTy {t : Ty} (ho : t.Ok) (hc : t.cnt < 1000000) : ∃ e : Int, evp f_tree_RightTy [tyV t] .none [] = some ⟨.ret (vI e), .none, []⟩ ∧ (e = 4 ↔ 100 < t.dep) := by
  have hT := has_ty t ho
  have hcr := cnt_row t
  have hb := bulk_ty t ho
  have h1R : Ck.oneR t.row = 1 := by cases t <;> rfl
  have hcn : Ck.cnts [t.row] = t.cnt := by simp only [Ck.cnts, h1R]; omega
  have hw := Ck.walk_tysf (N := Ck.cnts [t.row]) (fun M _ => Ck.walk_all M) [t.row] (Nat.le_refl _) (fun r hr => by simp at hr; subst hr; exact hT) 0 0 0 (by rw [hcn]; unfold Ck.BIG; omega) (by rw [hcn]; unfold Ck.BIG; omega)
  have hwm : Ck.wms 0 0 [t.row] = t.dep := by simp only [Ck.wms]; rw [dep_row]; omega
  rw [hwm] at hw
  simp only [avss] at hw
  obtain ⟨er, he4, hty⟩ := (Ck.ck_all (Ck.oneR t.row + Ck.cntR t.row)).ty t.row (Nat.le_refl _) hT (by unfold Ck.SMALL; omega)
  have htyK : ∀ K : Heap, lowss K.length K = true → evp f_tree_ty [tyV t] .none K = some ⟨Ck.oc er, .none, K⟩ := fun K hK => ev_lift0 gx_ren hty (map_ren _ _) (by unfold Ck.oc; split <;> rfl) hK
  rw [ty_row] at hw
  by_cases h : 100 < t.dep
  · rw [← tyV_eq]
    exact ⟨4, ktc6_is (wp_eq2 (X_RightTy_eq ..) ⟨_, _, _, hw, wp_if2 (fun _ => ⟨rfl, rfl⟩) (fun hn => absurd (of_decide_eq_false hn) (by omega))⟩), fun _ => h, fun _ => rfl⟩
  · have hk := htyK [[vI (0 + Ck.cnts [t.row] : Nat), vI 0, vI (t.dep : Nat)], [vI 0]] rfl
    rw [← tyV_eq] at hk ⊢
    refine ⟨er, ktc6_is (wp_eq2 (X_RightTy_eq ..) ⟨_, _, _, hw, wp_if2 (fun hn => absurd (of_decide_eq_true hn) (by omega)) (fun _ => ?_)⟩), fun h4 => absurd h4 he4, fun hh => absurd hh h⟩
    unfold Ck.oc at hk
    by_cases h0 : er = 0
    · rw [if_pos h0] at hk
      subst h0
      exact .inl ⟨hk, rfl, wp_if2 (fun h => by cases h) (fun _ => ⟨rfl, rfl⟩)⟩
    · rw [if_neg h0] at hk
      exact .inr ⟨er, hk, rfl, wp_if2 (fun _ => wp_if2 (fun h => by cases h) (fun _ => ⟨rfl, rfl⟩)) (fun h => by cases h)⟩
end Go.Proofs
end

section
/- TREES, printed by kt.py out of y3.txt -/
open Go Go.Eng
namespace Go.Proofs
set_option linter.unusedVariables false
set_option maxRecDepth 100000
@[irreducible] noncomputable def X_rIs (l : List (List AV)) (z : Int) (a : Int) (e : Int) (b : Int) (w : ByteArray) : KT := kt5 f_waferref05_Reader_Is [AV.ptr 0 0, vS w] [[AV.slice 4 l Own.no, vI z, vI a, vI e, vI b]]
theorem X_rIs_eq (l : List (List AV)) (z : Int) (a : Int) (e : Int) (b : Int) (w : ByteArray) : kt5 f_waferref05_Reader_Is [AV.ptr 0 0, vS w] [[AV.slice 4 l Own.no, vI z, vI a, vI e, vI b]] =
 (.stage
 (.branch (e != 0)
 (.out (.need true
 (.branch (false)
 (.branch (0 == 3)
 (.need true
 (.ret ⟨(.ret (vB ((⟨#[]⟩ : ByteArray).toList == w.toList))), .none, [[(.slice 4 (l) .no), (vI (z)), (vI (a)), (vI (e)), (vI (b))]]⟩))
 (.branch (0 == 6)
 (.need true
 (.ret ⟨(.ret (vB ((⟨#[]⟩ : ByteArray).toList == w.toList))), .none, [[(.slice 4 (l) .no), (vI (z)), (vI (a)), (vI (e)), (vI (b))]]⟩))
 (.need true
 (.ret ⟨(.ret (vB false)), .none, [[(.slice 4 (l) .no), (vI (z)), (vI (a)), (vI (e)), (vI (b))]]⟩))))
 (.need true
 (.ret ⟨(.ret (vB false)), .none, [[(.slice 4 (l) .no), (vI (z)), (vI (a)), (vI (e)), (vI (b))]]⟩)))))
 (.branch (decide (a ≥ (↑l.length : Int)))
 (.out (.need true
 (.branch (false)
 (.branch (0 == 3)
 (.need true
 (.ret ⟨(.ret (vB ((⟨#[]⟩ : ByteArray).toList == w.toList))), .none, [[(.slice 4 (l) .no), (vI (z)), (vI (a)), (vI (e)), (vI (b))]]⟩))
 (.branch (0 == 6)
 (.need true
 (.ret ⟨(.ret (vB ((⟨#[]⟩ : ByteArray).toList == w.toList))), .none, [[(.slice 4 (l) .no), (vI (z)), (vI (a)), (vI (e)), (vI (b))]]⟩))
 (.need true
 (.ret ⟨(.ret (vB false)), .none, [[(.slice 4 (l) .no), (vI (z)), (vI (a)), (vI (e)), (vI (b))]]⟩))))
 (.need true
 (.ret ⟨(.ret (vB false)), .none, [[(.slice 4 (l) .no), (vI (z)), (vI (a)), (vI (e)), (vI (b))]]⟩)))))
 (.done ⟨tm2 32 [(0, (.ptr 0 0)), (2, (.lp 2 0 0))], lm2 32 [(2, (0, [(vI (0)), (vS ((⟨#[]⟩ : ByteArray))), (vI (0)), (vI (0))]))], ⟨[[(.slice 4 (l) .no), (vI (z)), (vI (a)), (vI (e)), (vI (b))]], [], .none, 1⟩⟩)))
 ((X_rIs l z a e b w).K)) := by kernel_rfl
theorem X_rIss1_eq (l : List (List AV)) (z : Int) (a : Int) (e : Int) (b : Int) (w : ByteArray) : (X_rIs l z a e b w).K ⟨tm2 32 [(0, (.ptr 0 0)), (2, (.lp 2 0 0))], lm2 32 [(2, (0, [(vI (0)), (vS ((⟨#[]⟩ : ByteArray))), (vI (0)), (vI (0))]))], ⟨[[(.slice 4 (l) .no), (vI (z)), (vI (a)), (vI (e)), (vI (b))]], [], .none, 1⟩⟩ =
 (.exI fun i =>
 (.exS fun s =>
 (.exI fun i1 =>
 (.exI fun i2 =>
 (.row (l) (a) [(vI (i)), (vS (s)), (vI (i1)), (vI (i2))]
 (.need true
 (.branch (true)
 (.branch (i == 3)
 (.need true
 (.ret ⟨(.ret (vB (s.toList == w.toList))), .none, [[(.slice 4 (l) .no), (vI (z)), (vI (a)), (vI (e)), (vI (b))]]⟩))
 (.branch (i == 6)
 (.need true
 (.ret ⟨(.ret (vB (s.toList == w.toList))), .none, [[(.slice 4 (l) .no), (vI (z)), (vI (a)), (vI (e)), (vI (b))]]⟩))
 (.need true
 (.ret ⟨(.ret (vB false)), .none, [[(.slice 4 (l) .no), (vI (z)), (vI (a)), (vI (e)), (vI (b))]]⟩))))
 (.need true
 (.ret ⟨(.ret (vB false)), .none, [[(.slice 4 (l) .no), (vI (z)), (vI (a)), (vI (e)), (vI (b))]]⟩))))))))) := by kernel_rfl
@[irreducible] noncomputable def X_rkind (l : List (List AV)) (z : Int) (a : Int) (e : Int) (b : Int) (k : Int) : KT := kt5 f_waferref05_Reader_kind [AV.ptr 0 0, vI k] [[AV.slice 4 l Own.no, vI z, vI a, vI e, vI b]]
theorem X_rkind_eq (l : List (List AV)) (z : Int) (a : Int) (e : Int) (b : Int) (k : Int) : kt5 f_waferref05_Reader_kind [AV.ptr 0 0, vI k] [[AV.slice 4 l Own.no, vI z, vI a, vI e, vI b]] =
 (.stage
 (.branch (e != 0)
 (.out (.need true
 (.branch (false)
 (.need true
 (.ret ⟨(.ret (vB (0 == k))), .none, [[(.slice 4 (l) .no), (vI (z)), (vI (a)), (vI (e)), (vI (b))]]⟩))
 (.need true
 (.ret ⟨(.ret (vB false)), .none, [[(.slice 4 (l) .no), (vI (z)), (vI (a)), (vI (e)), (vI (b))]]⟩)))))
 (.branch (decide (a ≥ (↑l.length : Int)))
 (.out (.need true
 (.branch (false)
 (.need true
 (.ret ⟨(.ret (vB (0 == k))), .none, [[(.slice 4 (l) .no), (vI (z)), (vI (a)), (vI (e)), (vI (b))]]⟩))
 (.need true
 (.ret ⟨(.ret (vB false)), .none, [[(.slice 4 (l) .no), (vI (z)), (vI (a)), (vI (e)), (vI (b))]]⟩)))))
 (.done ⟨tm2 32 [(0, (.ptr 0 0)), (2, (.lp 2 0 0))], lm2 32 [(2, (0, [(vI (0)), (vS ((⟨#[]⟩ : ByteArray))), (vI (0)), (vI (0))]))], ⟨[[(.slice 4 (l) .no), (vI (z)), (vI (a)), (vI (e)), (vI (b))]], [], .none, 1⟩⟩)))
 ((X_rkind l z a e b k).K)) := by kernel_rfl
theorem X_rkinds1_eq (l : List (List AV)) (z : Int) (a : Int) (e : Int) (b : Int) (k : Int) : (X_rkind l z a e b k).K ⟨tm2 32 [(0, (.ptr 0 0)), (2, (.lp 2 0 0))], lm2 32 [(2, (0, [(vI (0)), (vS ((⟨#[]⟩ : ByteArray))), (vI (0)), (vI (0))]))], ⟨[[(.slice 4 (l) .no), (vI (z)), (vI (a)), (vI (e)), (vI (b))]], [], .none, 1⟩⟩ =
 (.exI fun i =>
 (.exS fun s =>
 (.exI fun i1 =>
 (.exI fun i2 =>
 (.row (l) (a) [(vI (i)), (vS (s)), (vI (i1)), (vI (i2))]
 (.need true
 (.branch (true)
 (.need true
 (.ret ⟨(.ret (vB (i == k))), .none, [[(.slice 4 (l) .no), (vI (z)), (vI (a)), (vI (e)), (vI (b))]]⟩))
 (.need true
 (.ret ⟨(.ret (vB false)), .none, [[(.slice 4 (l) .no), (vI (z)), (vI (a)), (vI (e)), (vI (b))]]⟩))))))))) := by kernel_rfl
theorem X_rTake_eq (l : List (List AV)) (z : Int) (a : Int) (e : Int) (b : Int) (w : ByteArray) : kt5 f_waferref05_Reader_Take [AV.ptr 0 0, vS w] [[AV.slice 4 l Own.no, vI z, vI a, vI e, vI b]] =
 (.exB fun b1 =>
 (.call f_waferref05_Reader_Is [(.ptr 0 0), (vS (w))] .none [[(.slice 4 (l) .no), (vI (z)), (vI (a)), (vI (e)), (vI (b))]] ⟨(.ret (vB (b1))), .none, [[(.slice 4 (l) .no), (vI (z)), (vI (a)), (vI (e)), (vI (b))]]⟩
 (.branch (!b1)
 (.need true
 (.ret ⟨(.ret (vB false)), .none, [[(.slice 4 (l) .no), (vI (z)), (vI (a)), (vI (e)), (vI (b))]]⟩))
 (.need true
 (.ret ⟨(.ret (vB true)), .none, [[(.slice 4 (l) .no), (vI (z)), (vI (IntKind.i64.wrap (a + 1))), (vI (e)), (vI (b))]]⟩))))) := by kernel_rfl
theorem X_rNeed_eq (l : List (List AV)) (z : Int) (a : Int) (e : Int) (b : Int) (w : ByteArray) : kt5 f_waferref05_Reader_Need [AV.ptr 0 0, vS w] [[AV.slice 4 l Own.no, vI z, vI a, vI e, vI b]] =
 (.exB fun b1 =>
 (.exR fun l1 =>
 (.exI fun i =>
 (.exI fun i1 =>
 (.exI fun i2 =>
 (.exI fun i3 =>
 (.call f_waferref05_Reader_Take [(.ptr 0 0), (vS (w))] .none [[(.slice 4 (l) .no), (vI (z)), (vI (a)), (vI (e)), (vI (b))]] ⟨(.ret (vB (b1))), .none, [[(.slice 4 (l1) .no), (vI (i)), (vI (i1)), (vI (i2)), (vI (i3))]]⟩
 (.branch (!b1)
 (.branch (i2 == 0)
 (.branch (decide (i1 < (↑l1.length : Int)))
 (.exI fun i4 =>
 (.exS fun s =>
 (.exI fun i5 =>
 (.exI fun i6 =>
 (.row (l1) (i1) [(vI (i4)), (vS (s)), (vI (i5)), (vI (i6))]
 (.need true
 (.need true
 (.need true
 (.ret ⟨(.ret (.tuple [])), .none, [[(.slice 4 (l1) .no), (vI (i)), (vI (i1)), (vI (11)), (vI (i6))]]⟩)))))))))
 (.need true
 (.need true
 (.need true
 (.ret ⟨(.ret (.tuple [])), .none, [[(.slice 4 (l1) .no), (vI (i)), (vI (i1)), (vI (11)), (vI (i))]]⟩)))))
 (.need true
 (.need true
 (.ret ⟨(.ret (.tuple [])), .none, [[(.slice 4 (l1) .no), (vI (i)), (vI (i1)), (vI (i2)), (vI (i3))]]⟩))))
 (.need true
 (.ret ⟨(.ret (.tuple [])), .none, [[(.slice 4 (l1) .no), (vI (i)), (vI (i1)), (vI (i2)), (vI (i3))]]⟩)))))))))) := by kernel_rfl
theorem X_rdotted_eq (l : List (List AV)) (z : Int) (a : Int) (e : Int) (b : Int) : kt5 f_waferref05_Reader_dotted [AV.ptr 0 0] [[AV.slice 4 l Own.no, vI z, vI a, vI e, vI b]] =
 (.branch (decide (IntKind.i64.wrap (a + 1) < (↑l.length : Int)))
 (.exI fun i =>
 (.exS fun s =>
 (.exI fun i1 =>
 (.exI fun i2 =>
 (.row (l) (IntKind.i64.wrap (a + 1)) [(vI (i)), (vS (s)), (vI (i1)), (vI (i2))]
 (.branch (i == 6)
 (.exI fun i3 =>
 (.exS fun s1 =>
 (.exI fun i4 =>
 (.exI fun i5 =>
 (.row (l) (IntKind.i64.wrap (a + 1)) [(vI (i3)), (vS (s1)), (vI (i4)), (vI (i5))]
 (.need true
 (.ret ⟨(.ret (vB (s1.toList == (⟨#[46]⟩ : ByteArray).toList))), .none, [[(.slice 4 (l) .no), (vI (z)), (vI (a)), (vI (e)), (vI (b))]]⟩)))))))
 (.need true
 (.ret ⟨(.ret (vB false)), .none, [[(.slice 4 (l) .no), (vI (z)), (vI (a)), (vI (e)), (vI (b))]]⟩))))))))
 (.need true
 (.ret ⟨(.ret (vB false)), .none, [[(.slice 4 (l) .no), (vI (z)), (vI (a)), (vI (e)), (vI (b))]]⟩))) := by kernel_rfl
@[irreducible] noncomputable def X_rTy (l : List (List AV)) (z : Int) (a : Int) (e : Int) (b : Int) : KT := kt5 f_waferref05_Reader_Ty [AV.ptr 0 0] [[AV.slice 4 l Own.no, vI z, vI a, vI e, vI b]]
theorem X_rTy_eq (l : List (List AV)) (z : Int) (a : Int) (e : Int) (b : Int) : kt5 f_waferref05_Reader_Ty [AV.ptr 0 0] [[AV.slice 4 l Own.no, vI z, vI a, vI e, vI b]] =
 (.exI fun i =>
 (.exS fun s =>
 (.exR fun l1 =>
 (.exR fun l2 =>
 (.exR fun l3 =>
 (.exI fun i1 =>
 (.exI fun i2 =>
 (.exI fun i3 =>
 (.exI fun i4 =>
 (.call f_waferref05_Reader_pairTy [(.ptr 0 0)] .none [[(.slice 4 (l) .no), (vI (z)), (vI (a)), (vI (e)), (vI (b))]] ⟨(.ret (.agg [(vI (i)), (vS (s)), (.slice 1 (l1) .no), (.slice 4 (l2) .no)])), .none, [[(.slice 4 (l3) .no), (vI (i1)), (vI (i2)), (vI (i3)), (vI (i4))]]⟩
 (.stage
 (.branch (i3 == 0)
 (.exB fun b1 =>
 (.exR fun l4 =>
 (.exI fun i5 =>
 (.exI fun i6 =>
 (.exI fun i7 =>
 (.exI fun i8 =>
 (.call f_waferref05_Reader_Take [(.ptr 0 0), (vS ((⟨#[45, 62]⟩ : ByteArray)))] .none [[(.slice 4 (l3) .no), (vI (i1)), (vI (i2)), (vI (i3)), (vI (i4))]] ⟨(.ret (vB (b1))), .none, [[(.slice 4 (l4) .no), (vI (i5)), (vI (i6)), (vI (i7)), (vI (i8))]]⟩
 (.branch (b1)
 (.exI fun i9 =>
 (.exS fun s1 =>
 (.exR fun l5 =>
 (.exR fun l6 =>
 (.exR fun l7 =>
 (.exI fun i10 =>
 (.exI fun i11 =>
 (.exI fun i12 =>
 (.exI fun i13 =>
 (.call f_waferref05_Reader_Ty [(.ptr 0 0)] .none [[(.slice 4 (l4) .no), (vI (i5)), (vI (i6)), (vI (i7)), (vI (i8))]] ⟨(.ret (.agg [(vI (i9)), (vS (s1)), (.slice 1 (l5) .no), (.slice 4 (l6) .no)])), .none, [[(.slice 4 (l7) .no), (vI (i10)), (vI (i11)), (vI (i12)), (vI (i13))]]⟩
 (.done ⟨tm2 27 [(0, (.ptr 0 0)), (2, (.lp 2 0 0)), (3, (.lp 3 0 0))], lm2 27 [(2, (0, [(vI (0)), (vS ((⟨#[]⟩ : ByteArray))), (.slice 0 [] .full), (.slice 0 [] .full)])), (3, (0, [(vI (3)), (vS ((⟨#[]⟩ : ByteArray))), (.slice 0 [] .full), (.slice 4 [[(vI (i)), (vS (s)), (.slice 1 (l1) .no), (.slice 4 (l2) .no)], [(vI (i9)), (vS (s1)), (.slice 1 (l5) .no), (.slice 4 (l6) .no)]] .full)]))], ⟨[[(.slice 4 (l7) .no), (vI (i10)), (vI (i11)), (vI (i12)), (vI (i13))]], [], .none, 1⟩⟩)))))))))))
 (.done ⟨tm2 27 [(0, (.ptr 0 0)), (2, (.lp 2 0 0)), (3, (.lp 3 0 0))], lm2 27 [(2, (0, [(vI (0)), (vS ((⟨#[]⟩ : ByteArray))), (.slice 0 [] .full), (.slice 0 [] .full)])), (3, (0, [(vI (i)), (vS (s)), (.slice 1 (l1) .no), (.slice 4 (l2) .no)]))], ⟨[[(.slice 4 (l4) .no), (vI (i5)), (vI (i6)), (vI (i7)), (vI (i8))]], [], .none, 1⟩⟩)))))))))
 (.done ⟨tm2 27 [(0, (.ptr 0 0)), (2, (.lp 2 0 0)), (3, (.lp 3 0 0))], lm2 27 [(2, (0, [(vI (0)), (vS ((⟨#[]⟩ : ByteArray))), (.slice 0 [] .full), (.slice 0 [] .full)])), (3, (0, [(vI (i)), (vS (s)), (.slice 1 (l1) .no), (.slice 4 (l2) .no)]))], ⟨[[(.slice 4 (l3) .no), (vI (i1)), (vI (i2)), (vI (i3)), (vI (i4))]], [], .none, 1⟩⟩))
 (((((((((((X_rTy l z a e b).I i).S s).R l1).R l2).R l3).I i1).I i2).I i3).I i4).T.K)))))))))))) := by kernel_rfl
@[irreducible] noncomputable def X_rTys1 (l : List (List AV)) (z : Int) (a : Int) (e : Int) (b : Int) (i : Int) (s : ByteArray) (l1 : List (List AV)) (l2 : List (List AV)) (l3 : List (List AV)) (i1 : Int) (i2 : Int) (i3 : Int) (i4 : Int) (q1x0 : Int) (q1x1 : ByteArray) (q1x2 : Nat) (q1x3 : List (List AV)) (q1x4 : Own) (q1x5 : List (List AV)) (q1x6 : Own) (q1x7 : List (List AV)) (q1x8 : Int) (q1x9 : Int) (q1x10 : Int) (q1x11 : Int) : KT := ((((((((((X_rTy l z a e b).I i).S s).R l1).R l2).R l3).I i1).I i2).I i3).I i4).T.K ⟨tm2 27 [(0, (.ptr 0 0)), (2, (.lp 2 0 0)), (3, (.lp 3 0 0))], lm2 27 [(2, (0, [(vI (0)), (vS ((⟨#[]⟩ : ByteArray))), (.slice 0 [] .full), (.slice 0 [] .full)])), (3, (0, [(vI (q1x0)), (vS (q1x1)), (.slice (q1x2) (q1x3) (q1x4)), (.slice 4 (q1x5) (q1x6))]))], ⟨[[(.slice 4 (q1x7) .no), (vI (q1x8)), (vI (q1x9)), (vI (q1x10)), (vI (q1x11))]], [], .none, 1⟩⟩
theorem X_rTys1_eq (l : List (List AV)) (z : Int) (a : Int) (e : Int) (b : Int) (i : Int) (s : ByteArray) (l1 : List (List AV)) (l2 : List (List AV)) (l3 : List (List AV)) (i1 : Int) (i2 : Int) (i3 : Int) (i4 : Int) (q1x0 : Int) (q1x1 : ByteArray) (q1x2 : Nat) (q1x3 : List (List AV)) (q1x4 : Own) (q1x5 : List (List AV)) (q1x6 : Own) (q1x7 : List (List AV)) (q1x8 : Int) (q1x9 : Int) (q1x10 : Int) (q1x11 : Int) : ((((((((((X_rTy l z a e b).I i).S s).R l1).R l2).R l3).I i1).I i2).I i3).I i4).T.K ⟨tm2 27 [(0, (.ptr 0 0)), (2, (.lp 2 0 0)), (3, (.lp 3 0 0))], lm2 27 [(2, (0, [(vI (0)), (vS ((⟨#[]⟩ : ByteArray))), (.slice 0 [] .full), (.slice 0 [] .full)])), (3, (0, [(vI (q1x0)), (vS (q1x1)), (.slice (q1x2) (q1x3) (q1x4)), (.slice 4 (q1x5) (q1x6))]))], ⟨[[(.slice 4 (q1x7) .no), (vI (q1x8)), (vI (q1x9)), (vI (q1x10)), (vI (q1x11))]], [], .none, 1⟩⟩ =
 (.branch (q1x10 != 0)
 (.need true
 (.ret ⟨(.ret (.agg [(vI (0)), (vS ((⟨#[]⟩ : ByteArray))), (.slice 1 [] .no), (.slice 4 [] .no)])), .none, [[(.slice 4 (q1x7) .no), (vI (q1x8)), (vI (q1x9)), (vI (q1x10)), (vI (q1x11))]]⟩))
 (.need true
 (.ret ⟨(.ret (.agg [(vI (q1x0)), (vS (q1x1)), (normS Pg (y_s_string : TypeId) (AV.slice q1x2 q1x3 q1x4).dis.dis.dis), (normS Pg (y_s_api_Ty : TypeId) (AV.slice 4 q1x5 q1x6).dis.dis.dis)])), .none, [[(.slice 4 (q1x7) .no), (vI (q1x8)), (vI (q1x9)), (vI (q1x10)), (vI (q1x11))]]⟩))) := by kernel_rfl
-- STAGE X_rTys1: told for any #[q1x0, q1x1, q1x2, q1x3, q1x4, q1x5, q1x6, q1x7, q1x8, q1x9, q1x10, q1x11]
@[irreducible] noncomputable def X_rpairTy (l : List (List AV)) (z : Int) (a : Int) (e : Int) (b : Int) : KT := kt5 f_waferref05_Reader_pairTy [AV.ptr 0 0] [[AV.slice 4 l Own.no, vI z, vI a, vI e, vI b]]
theorem X_rpairTy_eq (l : List (List AV)) (z : Int) (a : Int) (e : Int) (b : Int) : kt5 f_waferref05_Reader_pairTy [AV.ptr 0 0] [[AV.slice 4 l Own.no, vI z, vI a, vI e, vI b]] =
 (.exI fun i =>
 (.exS fun s =>
 (.exR fun l1 =>
 (.exR fun l2 =>
 (.exR fun l3 =>
 (.exI fun i1 =>
 (.exI fun i2 =>
 (.exI fun i3 =>
 (.exI fun i4 =>
 (.call f_waferref05_Reader_atomTy [(.ptr 0 0)] .none [[(.slice 4 (l) .no), (vI (z)), (vI (a)), (vI (e)), (vI (b))]] ⟨(.ret (.agg [(vI (i)), (vS (s)), (.slice 1 (l1) .no), (.slice 4 (l2) .no)])), .none, [[(.slice 4 (l3) .no), (vI (i1)), (vI (i2)), (vI (i3)), (vI (i4))]]⟩
 (((((((((((X_rpairTy l z a e b).I i).S s).R l1).R l2).R l3).I i1).I i2).I i3).I i4).T) /- LOOP f_waferref05_Reader_pairTy block 0 at ⟨tm2 14 [(0, (.ptr 0 0)), (2, (.lp 2 0 0)), (3, (.lp 3 0 0))], lm2 14 [(2, (0, [(vI (0)), (vS ((⟨#[]⟩ : ByteArray))), (.slice 0 [] .full), (.slice 0 [] .full)])), (3, (0, [(vI (i)), (vS (s)), (.slice 1 (l1) .no), (.slice 4 (l2) .no)]))], ⟨[[(.slice 4 (l3) .no), (vI (i1)), (vI (i2)), (vI (i3)), (vI (i4))]], [], .none, 1⟩⟩ -/)))))))))) := by kernel_rfl
-- LOOP ((((((((((X_rpairTy l z a e b).I i).S s).R l1).R l2).R l3).I i1).I i2).I i3).I i4).T
@[irreducible] noncomputable def X_ratomTy (l : List (List AV)) (z : Int) (a : Int) (e : Int) (b : Int) : KT := kt5 f_waferref05_Reader_atomTy [AV.ptr 0 0] [[AV.slice 4 l Own.no, vI z, vI a, vI e, vI b]]
theorem X_ratomTy_eq (l : List (List AV)) (z : Int) (a : Int) (e : Int) (b : Int) : kt5 f_waferref05_Reader_atomTy [AV.ptr 0 0] [[AV.slice 4 l Own.no, vI z, vI a, vI e, vI b]] =
 (.stage
 (.exB fun b1 =>
 (.call f_waferref05_Reader_Is [(.ptr 0 0), (vS ((⟨#[105, 110, 116]⟩ : ByteArray)))] .none [[(.slice 4 (l) .no), (vI (z)), (vI (a)), (vI (e)), (vI (b))]] ⟨(.ret (vB (b1))), .none, [[(.slice 4 (l) .no), (vI (z)), (vI (a)), (vI (e)), (vI (b))]]⟩
 (.branch (b1)
 (.exI fun i =>
 (.exS fun s =>
 (.exI fun i1 =>
 (.exI fun i2 =>
 (.row (l) (IntKind.i64.wrap (IntKind.i64.wrap (a + 1) - 1)) [(vI (i)), (vS (s)), (vI (i1)), (vI (i2))]
 (.out (.need true
 (.ret ⟨(.ret (.agg [(vI (2)), (vS ((⟨#[]⟩ : ByteArray))), (.slice 1 [[(vS (s))]] .no), (.slice 4 [] .no)])), .none, [[(.slice 4 (l) .no), (vI (z)), (vI (IntKind.i64.wrap (a + 1))), (vI (e)), (vI (b))]]⟩))))))))
 (.exB fun b2 =>
 (.call f_waferref05_Reader_Is [(.ptr 0 0), (vS ((⟨#[98, 111, 111, 108]⟩ : ByteArray)))] .none [[(.slice 4 (l) .no), (vI (z)), (vI (a)), (vI (e)), (vI (b))]] ⟨(.ret (vB (b2))), .none, [[(.slice 4 (l) .no), (vI (z)), (vI (a)), (vI (e)), (vI (b))]]⟩
 (.branch (b2)
 (.exI fun i =>
 (.exS fun s =>
 (.exI fun i1 =>
 (.exI fun i2 =>
 (.row (l) (IntKind.i64.wrap (IntKind.i64.wrap (a + 1) - 1)) [(vI (i)), (vS (s)), (vI (i1)), (vI (i2))]
 (.out (.need true
 (.ret ⟨(.ret (.agg [(vI (2)), (vS ((⟨#[]⟩ : ByteArray))), (.slice 1 [[(vS (s))]] .no), (.slice 4 [] .no)])), .none, [[(.slice 4 (l) .no), (vI (z)), (vI (IntKind.i64.wrap (a + 1))), (vI (e)), (vI (b))]]⟩))))))))
 (.exB fun b3 =>
 (.call f_waferref05_Reader_Is [(.ptr 0 0), (vS ((⟨#[117, 110, 105, 116]⟩ : ByteArray)))] .none [[(.slice 4 (l) .no), (vI (z)), (vI (a)), (vI (e)), (vI (b))]] ⟨(.ret (vB (b3))), .none, [[(.slice 4 (l) .no), (vI (z)), (vI (a)), (vI (e)), (vI (b))]]⟩
 (.branch (b3)
 (.exI fun i =>
 (.exS fun s =>
 (.exI fun i1 =>
 (.exI fun i2 =>
 (.row (l) (IntKind.i64.wrap (IntKind.i64.wrap (a + 1) - 1)) [(vI (i)), (vS (s)), (vI (i1)), (vI (i2))]
 (.out (.need true
 (.ret ⟨(.ret (.agg [(vI (2)), (vS ((⟨#[]⟩ : ByteArray))), (.slice 1 [[(vS (s))]] .no), (.slice 4 [] .no)])), .none, [[(.slice 4 (l) .no), (vI (z)), (vI (IntKind.i64.wrap (a + 1))), (vI (e)), (vI (b))]]⟩))))))))
 (.done ⟨tm2 68 [(0, (.ptr 0 0)), (2, (.lp 2 0 0))], lm2 68 [(2, (0, [(vI (0)), (vS ((⟨#[]⟩ : ByteArray))), (.slice 0 [] .full), (.slice 0 [] .full)]))], ⟨[[(.slice 4 (l) .no), (vI (z)), (vI (a)), (vI (e)), (vI (b))]], [], .none, 1⟩⟩))))))))))
 ((X_ratomTy l z a e b).K)) := by kernel_rfl
theorem X_ratomTys1_eq (l : List (List AV)) (z : Int) (a : Int) (e : Int) (b : Int) : (X_ratomTy l z a e b).K ⟨tm2 68 [(0, (.ptr 0 0)), (2, (.lp 2 0 0))], lm2 68 [(2, (0, [(vI (0)), (vS ((⟨#[]⟩ : ByteArray))), (.slice 0 [] .full), (.slice 0 [] .full)]))], ⟨[[(.slice 4 (l) .no), (vI (z)), (vI (a)), (vI (e)), (vI (b))]], [], .none, 1⟩⟩ =
 (.exB fun b1 =>
 (.call f_waferref05_Reader_kind [(.ptr 0 0), (vI (5))] .none [[(.slice 4 (l) .no), (vI (z)), (vI (a)), (vI (e)), (vI (b))]] ⟨(.ret (vB (b1))), .none, [[(.slice 4 (l) .no), (vI (z)), (vI (a)), (vI (e)), (vI (b))]]⟩
 (.branch (b1)
 (.exI fun i =>
 (.exS fun s =>
 (.exI fun i1 =>
 (.exI fun i2 =>
 (.row (l) (IntKind.i64.wrap (IntKind.i64.wrap (a + 1) - 1)) [(vI (i)), (vS (s)), (vI (i1)), (vI (i2))]
 (.need (decide ((0 : Int) ≤ 1 ∧ 1 ≤ (↑s.size : Int) ∧ (↑s.size : Int) ≤ (↑s.size : Int)))
 (.need true
 (.ret ⟨(.ret (.agg [(vI (1)), (vS (s.extract (Int.toNat 1) (↑s.size : Int).toNat)), (.slice 1 [] .no), (.slice 4 [] .no)])), .none, [[(.slice 4 (l) .no), (vI (z)), (vI (IntKind.i64.wrap (a + 1))), (vI (e)), (vI (b))]]⟩))))))))
 (.exB fun b2 =>
 (.exR fun l1 =>
 (.exI fun i =>
 (.exI fun i1 =>
 (.exI fun i2 =>
 (.exI fun i3 =>
 (.call f_waferref05_Reader_Take [(.ptr 0 0), (vS ((⟨#[40]⟩ : ByteArray)))] .none [[(.slice 4 (l) .no), (vI (z)), (vI (a)), (vI (e)), (vI (b))]] ⟨(.ret (vB (b2))), .none, [[(.slice 4 (l1) .no), (vI (i)), (vI (i1)), (vI (i2)), (vI (i3))]]⟩
 (.branch (b2)
 (.exI fun i4 =>
 (.exS fun s =>
 (.exR fun l2 =>
 (.exR fun l3 =>
 (.exR fun l4 =>
 (.exI fun i5 =>
 (.exI fun i6 =>
 (.exI fun i7 =>
 (.exI fun i8 =>
 (.call f_waferref05_Reader_Ty [(.ptr 0 0)] .none [[(.slice 4 (l1) .no), (vI (i)), (vI (i1)), (vI (i2)), (vI (i3))]] ⟨(.ret (.agg [(vI (i4)), (vS (s)), (.slice 1 (l2) .no), (.slice 4 (l3) .no)])), .none, [[(.slice 4 (l4) .no), (vI (i5)), (vI (i6)), (vI (i7)), (vI (i8))]]⟩
 (.exR fun l5 =>
 (.exI fun i9 =>
 (.exI fun i10 =>
 (.exI fun i11 =>
 (.exI fun i12 =>
 (.call f_waferref05_Reader_Need [(.ptr 0 0), (vS ((⟨#[41]⟩ : ByteArray)))] .none [[(.slice 4 (l4) .no), (vI (i5)), (vI (i6)), (vI (i7)), (vI (i8))]] ⟨(.ret (.tuple [])), .none, [[(.slice 4 (l5) .no), (vI (i9)), (vI (i10)), (vI (i11)), (vI (i12))]]⟩
 (.need true
 (.ret ⟨(.ret (.agg [(vI (i4)), (vS (s)), (.slice 1 (l2) .no), (.slice 4 (l3) .no)])), .none, [[(.slice 4 (l5) .no), (vI (i9)), (vI (i10)), (vI (i11)), (vI (i12))]]⟩))))))))))))))))))
 (.exR fun l2 =>
 (.exR fun l3 =>
 (.exI fun i4 =>
 (.exI fun i5 =>
 (.exI fun i6 =>
 (.exI fun i7 =>
 (.call f_waferref05_Reader_Path [(.ptr 0 0), (vB true)] .none [[(.slice 4 (l1) .no), (vI (i)), (vI (i1)), (vI (i2)), (vI (i3))]] ⟨(.ret (.slice 1 (l2) .no)), .none, [[(.slice 4 (l3) .no), (vI (i4)), (vI (i5)), (vI (i6)), (vI (i7))]]⟩
 (.need true
 (.ret ⟨(.ret (.agg [(vI (2)), (vS ((⟨#[]⟩ : ByteArray))), (.slice 1 (l2) .no), (.slice 4 [] .no)])), .none, [[(.slice 4 (l3) .no), (vI (i4)), (vI (i5)), (vI (i6)), (vI (i7))]]⟩)))))))))))))))))))) := by kernel_rfl
theorem X_rPath_eq (l : List (List AV)) (z : Int) (a : Int) (e : Int) (b : Int) (lo : Bool) : kt5 f_waferref05_Reader_Path [AV.ptr 0 0, vB lo] [[AV.slice 4 l Own.no, vI z, vI a, vI e, vI b]] =
 (.exR fun l1 =>
 (.exR fun l2 =>
 (.exI fun i =>
 (.exI fun i1 =>
 (.exI fun i2 =>
 (.exI fun i3 =>
 (.call f_waferref05_Reader_path [(.ptr 0 0), (vB (lo))] .none [[(.slice 4 (l) .no), (vI (z)), (vI (a)), (vI (e)), (vI (b))]] ⟨(.ret (.slice 1 (l1) .no)), .none, [[(.slice 4 (l2) .no), (vI (i)), (vI (i1)), (vI (i2)), (vI (i3))]]⟩
 (.branch (i2 != 0)
 (.need true
 (.ret ⟨(.ret (.slice 1 [] .no)), .none, [[(.slice 4 (l2) .no), (vI (i)), (vI (i1)), (vI (i2)), (vI (i3))]]⟩))
 (.exS fun s =>
 (.row (l1) (IntKind.i64.wrap ((↑l1.length : Int) - 1)) [(vS (s))]
 (.exY fun y =>
 (.byte (s) (0) (y)
 (.branch (!decide ((↑y.toNat : Int) ≥ 97) == lo)
 (.branch (i2 == 0)
 (.branch (decide (i1 < (↑l2.length : Int)))
 (.exI fun i4 =>
 (.exS fun s1 =>
 (.exI fun i5 =>
 (.exI fun i6 =>
 (.row (l2) (i1) [(vI (i4)), (vS (s1)), (vI (i5)), (vI (i6))]
 (.need true
 (.need true
 (.need true
 (.ret ⟨(.ret (.slice 1 [] .no)), .none, [[(.slice 4 (l2) .no), (vI (i)), (vI (i1)), (vI (11)), (vI (i6))]]⟩)))))))))
 (.need true
 (.need true
 (.need true
 (.ret ⟨(.ret (.slice 1 [] .no)), .none, [[(.slice 4 (l2) .no), (vI (i)), (vI (i1)), (vI (11)), (vI (i))]]⟩)))))
 (.need true
 (.need true
 (.ret ⟨(.ret (.slice 1 [] .no)), .none, [[(.slice 4 (l2) .no), (vI (i)), (vI (i1)), (vI (i2)), (vI (i3))]]⟩))))
 (.need true
 (.ret ⟨(.ret (.slice 1 (l1) .no)), .none, [[(.slice 4 (l2) .no), (vI (i)), (vI (i1)), (vI (i2)), (vI (i3))]]⟩))))))))))))))) := by kernel_rfl
@[irreducible] noncomputable def X_rpath (l : List (List AV)) (z : Int) (a : Int) (e : Int) (b : Int) (lo : Bool) : KT := kt5 f_waferref05_Reader_path [AV.ptr 0 0, vB lo] [[AV.slice 4 l Own.no, vI z, vI a, vI e, vI b]]
theorem X_rpath_eq (l : List (List AV)) (z : Int) (a : Int) (e : Int) (b : Int) (lo : Bool) : kt5 f_waferref05_Reader_path [AV.ptr 0 0, vB lo] [[AV.slice 4 l Own.no, vI z, vI a, vI e, vI b]] =
 ((X_rpath l z a e b lo)) /- LOOP f_waferref05_Reader_path block 0 at ⟨tm2 85 [(0, (.ptr 0 0)), (1, (vB (lo))), (5, (.slice 0 [] .full)), (6, (vI (a)))], lm2 85 [], ⟨[[(.slice 4 (l) .no), (vI (z)), (vI (a)), (vI (e)), (vI (b))]], [], .none, 1⟩⟩ -/ := by kernel_rfl
-- LOOP (X_rpath l z a e b lo)
end Go.Proofs
end
