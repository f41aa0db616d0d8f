/- Texts of this proof folded into one: RX3 Q1 RX4 Q2 Q3 Q4 Z8. -/
import Derived.Test.YtmdjdcnabbapgaaGreatDoorJ15
import Derived.Test.YtmdjdcnabbapgaaGreatDoorJ16
section
/- TREES, printed by kt.py out of y3.txt -/
open Go Go.Eng
namespace Go.Proofs
set_option linter.unusedVariables false
set_option maxRecDepth 100000
@[irreducible] noncomputable def X_rIs (l : List (List AV)) (z : Int) (a : Int) (e : Int) (b : Int) (w : ByteArray) : KT := kt5 f_waferref05_Reader_Is [AV.ptr 0 0, vS w] [[AV.slice 4 l Own.no, vI z, vI a, vI e, vI b]]
theorem X_rIs_eq (l : List (List AV)) (z : Int) (a : Int) (e : Int) (b : Int) (w : ByteArray) : kt5 f_waferref05_Reader_Is [AV.ptr 0 0, vS w] [[AV.slice 4 l Own.no, vI z, vI a, vI e, vI b]] =
 (.stage
 (.branch (e != 0)
 (.out (.need true
 (.branch (false)
 (.branch (0 == 3)
 (.need true
 (.ret ⟨(.ret (vB ((⟨#[]⟩ : ByteArray).toList == w.toList))), .none, [[(.slice 4 (l) .no), (vI (z)), (vI (a)), (vI (e)), (vI (b))]]⟩))
 (.branch (0 == 6)
 (.need true
 (.ret ⟨(.ret (vB ((⟨#[]⟩ : ByteArray).toList == w.toList))), .none, [[(.slice 4 (l) .no), (vI (z)), (vI (a)), (vI (e)), (vI (b))]]⟩))
 (.need true
 (.ret ⟨(.ret (vB false)), .none, [[(.slice 4 (l) .no), (vI (z)), (vI (a)), (vI (e)), (vI (b))]]⟩))))
 (.need true
 (.ret ⟨(.ret (vB false)), .none, [[(.slice 4 (l) .no), (vI (z)), (vI (a)), (vI (e)), (vI (b))]]⟩)))))
 (.branch (decide (a ≥ (↑l.length : Int)))
 (.out (.need true
 (.branch (false)
 (.branch (0 == 3)
 (.need true
 (.ret ⟨(.ret (vB ((⟨#[]⟩ : ByteArray).toList == w.toList))), .none, [[(.slice 4 (l) .no), (vI (z)), (vI (a)), (vI (e)), (vI (b))]]⟩))
 (.branch (0 == 6)
 (.need true
 (.ret ⟨(.ret (vB ((⟨#[]⟩ : ByteArray).toList == w.toList))), .none, [[(.slice 4 (l) .no), (vI (z)), (vI (a)), (vI (e)), (vI (b))]]⟩))
 (.need true
 (.ret ⟨(.ret (vB false)), .none, [[(.slice 4 (l) .no), (vI (z)), (vI (a)), (vI (e)), (vI (b))]]⟩))))
 (.need true
 (.ret ⟨(.ret (vB false)), .none, [[(.slice 4 (l) .no), (vI (z)), (vI (a)), (vI (e)), (vI (b))]]⟩)))))
 (.done ⟨tm2 32 [(0, (.ptr 0 0)), (2, (.lp 2 0 0))], lm2 32 [(2, (0, [(vI (0)), (vS ((⟨#[]⟩ : ByteArray))), (vI (0)), (vI (0))]))], ⟨[[(.slice 4 (l) .no), (vI (z)), (vI (a)), (vI (e)), (vI (b))]], [], .none, 1⟩⟩)))
 ((X_rIs l z a e b w).K)) := by kernel_rfl
theorem X_rIss1_eq (l : List (List AV)) (z : Int) (a : Int) (e : Int) (b : Int) (w : ByteArray) : (X_rIs l z a e b w).K ⟨tm2 32 [(0, (.ptr 0 0)), (2, (.lp 2 0 0))], lm2 32 [(2, (0, [(vI (0)), (vS ((⟨#[]⟩ : ByteArray))), (vI (0)), (vI (0))]))], ⟨[[(.slice 4 (l) .no), (vI (z)), (vI (a)), (vI (e)), (vI (b))]], [], .none, 1⟩⟩ =
 (.exI fun i =>
 (.exS fun s =>
 (.exI fun i1 =>
 (.exI fun i2 =>
 (.row (l) (a) [(vI (i)), (vS (s)), (vI (i1)), (vI (i2))]
 (.need true
 (.branch (true)
 (.branch (i == 3)
 (.need true
 (.ret ⟨(.ret (vB (s.toList == w.toList))), .none, [[(.slice 4 (l) .no), (vI (z)), (vI (a)), (vI (e)), (vI (b))]]⟩))
 (.branch (i == 6)
 (.need true
 (.ret ⟨(.ret (vB (s.toList == w.toList))), .none, [[(.slice 4 (l) .no), (vI (z)), (vI (a)), (vI (e)), (vI (b))]]⟩))
 (.need true
 (.ret ⟨(.ret (vB false)), .none, [[(.slice 4 (l) .no), (vI (z)), (vI (a)), (vI (e)), (vI (b))]]⟩))))
 (.need true
 (.ret ⟨(.ret (vB false)), .none, [[(.slice 4 (l) .no), (vI (z)), (vI (a)), (vI (e)), (vI (b))]]⟩))))))))) := by kernel_rfl
@[irreducible] noncomputable def X_rkind (l : List (List AV)) (z : Int) (a : Int) (e : Int) (b : Int) (k : Int) : KT := kt5 f_waferref05_Reader_kind [AV.ptr 0 0, vI k] [[AV.slice 4 l Own.no, vI z, vI a, vI e, vI b]]
theorem X_rkind_eq (l : List (List AV)) (z : Int) (a : Int) (e : Int) (b : Int) (k : Int) : kt5 f_waferref05_Reader_kind [AV.ptr 0 0, vI k] [[AV.slice 4 l Own.no, vI z, vI a, vI e, vI b]] =
 (.stage
 (.branch (e != 0)
 (.out (.need true
 (.branch (false)
 (.need true
 (.ret ⟨(.ret (vB (0 == k))), .none, [[(.slice 4 (l) .no), (vI (z)), (vI (a)), (vI (e)), (vI (b))]]⟩))
 (.need true
 (.ret ⟨(.ret (vB false)), .none, [[(.slice 4 (l) .no), (vI (z)), (vI (a)), (vI (e)), (vI (b))]]⟩)))))
 (.branch (decide (a ≥ (↑l.length : Int)))
 (.out (.need true
 (.branch (false)
 (.need true
 (.ret ⟨(.ret (vB (0 == k))), .none, [[(.slice 4 (l) .no), (vI (z)), (vI (a)), (vI (e)), (vI (b))]]⟩))
 (.need true
 (.ret ⟨(.ret (vB false)), .none, [[(.slice 4 (l) .no), (vI (z)), (vI (a)), (vI (e)), (vI (b))]]⟩)))))
 (.done ⟨tm2 32 [(0, (.ptr 0 0)), (2, (.lp 2 0 0))], lm2 32 [(2, (0, [(vI (0)), (vS ((⟨#[]⟩ : ByteArray))), (vI (0)), (vI (0))]))], ⟨[[(.slice 4 (l) .no), (vI (z)), (vI (a)), (vI (e)), (vI (b))]], [], .none, 1⟩⟩)))
 ((X_rkind l z a e b k).K)) := by kernel_rfl
theorem X_rkinds1_eq (l : List (List AV)) (z : Int) (a : Int) (e : Int) (b : Int) (k : Int) : (X_rkind l z a e b k).K ⟨tm2 32 [(0, (.ptr 0 0)), (2, (.lp 2 0 0))], lm2 32 [(2, (0, [(vI (0)), (vS ((⟨#[]⟩ : ByteArray))), (vI (0)), (vI (0))]))], ⟨[[(.slice 4 (l) .no), (vI (z)), (vI (a)), (vI (e)), (vI (b))]], [], .none, 1⟩⟩ =
 (.exI fun i =>
 (.exS fun s =>
 (.exI fun i1 =>
 (.exI fun i2 =>
 (.row (l) (a) [(vI (i)), (vS (s)), (vI (i1)), (vI (i2))]
 (.need true
 (.branch (true)
 (.need true
 (.ret ⟨(.ret (vB (i == k))), .none, [[(.slice 4 (l) .no), (vI (z)), (vI (a)), (vI (e)), (vI (b))]]⟩))
 (.need true
 (.ret ⟨(.ret (vB false)), .none, [[(.slice 4 (l) .no), (vI (z)), (vI (a)), (vI (e)), (vI (b))]]⟩))))))))) := by kernel_rfl
theorem X_rTake_eq (l : List (List AV)) (z : Int) (a : Int) (e : Int) (b : Int) (w : ByteArray) : kt5 f_waferref05_Reader_Take [AV.ptr 0 0, vS w] [[AV.slice 4 l Own.no, vI z, vI a, vI e, vI b]] =
 (.exB fun b1 =>
 (.call f_waferref05_Reader_Is [(.ptr 0 0), (vS (w))] .none [[(.slice 4 (l) .no), (vI (z)), (vI (a)), (vI (e)), (vI (b))]] ⟨(.ret (vB (b1))), .none, [[(.slice 4 (l) .no), (vI (z)), (vI (a)), (vI (e)), (vI (b))]]⟩
 (.branch (!b1)
 (.need true
 (.ret ⟨(.ret (vB false)), .none, [[(.slice 4 (l) .no), (vI (z)), (vI (a)), (vI (e)), (vI (b))]]⟩))
 (.need true
 (.ret ⟨(.ret (vB true)), .none, [[(.slice 4 (l) .no), (vI (z)), (vI (IntKind.i64.wrap (a + 1))), (vI (e)), (vI (b))]]⟩))))) := by kernel_rfl
theorem X_rNeed_eq (l : List (List AV)) (z : Int) (a : Int) (e : Int) (b : Int) (w : ByteArray) : kt5 f_waferref05_Reader_Need [AV.ptr 0 0, vS w] [[AV.slice 4 l Own.no, vI z, vI a, vI e, vI b]] =
 (.exB fun b1 =>
 (.exR fun l1 =>
 (.exI fun i =>
 (.exI fun i1 =>
 (.exI fun i2 =>
 (.exI fun i3 =>
 (.call f_waferref05_Reader_Take [(.ptr 0 0), (vS (w))] .none [[(.slice 4 (l) .no), (vI (z)), (vI (a)), (vI (e)), (vI (b))]] ⟨(.ret (vB (b1))), .none, [[(.slice 4 (l1) .no), (vI (i)), (vI (i1)), (vI (i2)), (vI (i3))]]⟩
 (.branch (!b1)
 (.branch (i2 == 0)
 (.branch (decide (i1 < (↑l1.length : Int)))
 (.exI fun i4 =>
 (.exS fun s =>
 (.exI fun i5 =>
 (.exI fun i6 =>
 (.row (l1) (i1) [(vI (i4)), (vS (s)), (vI (i5)), (vI (i6))]
 (.need true
 (.need true
 (.need true
 (.ret ⟨(.ret (.tuple [])), .none, [[(.slice 4 (l1) .no), (vI (i)), (vI (i1)), (vI (11)), (vI (i6))]]⟩)))))))))
 (.need true
 (.need true
 (.need true
 (.ret ⟨(.ret (.tuple [])), .none, [[(.slice 4 (l1) .no), (vI (i)), (vI (i1)), (vI (11)), (vI (i))]]⟩)))))
 (.need true
 (.need true
 (.ret ⟨(.ret (.tuple [])), .none, [[(.slice 4 (l1) .no), (vI (i)), (vI (i1)), (vI (i2)), (vI (i3))]]⟩))))
 (.need true
 (.ret ⟨(.ret (.tuple [])), .none, [[(.slice 4 (l1) .no), (vI (i)), (vI (i1)), (vI (i2)), (vI (i3))]]⟩)))))))))) := by kernel_rfl
theorem X_rname_eq (l : List (List AV)) (z : Int) (a : Int) (e : Int) (b : Int) (k : Int) : kt5 f_waferref05_Reader_name [AV.ptr 0 0, vI k] [[AV.slice 4 l Own.no, vI z, vI a, vI e, vI b]] =
 (.exB fun b1 =>
 (.call f_waferref05_Reader_kind [(.ptr 0 0), (vI (k))] .none [[(.slice 4 (l) .no), (vI (z)), (vI (a)), (vI (e)), (vI (b))]] ⟨(.ret (vB (b1))), .none, [[(.slice 4 (l) .no), (vI (z)), (vI (a)), (vI (e)), (vI (b))]]⟩
 (.branch (!b1)
 (.branch (e == 0)
 (.branch (decide (a < (↑l.length : Int)))
 (.exI fun i =>
 (.exS fun s =>
 (.exI fun i1 =>
 (.exI fun i2 =>
 (.row (l) (a) [(vI (i)), (vS (s)), (vI (i1)), (vI (i2))]
 (.need true
 (.need true
 (.need true
 (.ret ⟨(.ret (vS ((⟨#[]⟩ : ByteArray)))), .none, [[(.slice 4 (l) .no), (vI (z)), (vI (a)), (vI (11)), (vI (i2))]]⟩)))))))))
 (.need true
 (.need true
 (.need true
 (.ret ⟨(.ret (vS ((⟨#[]⟩ : ByteArray)))), .none, [[(.slice 4 (l) .no), (vI (z)), (vI (a)), (vI (11)), (vI (z))]]⟩)))))
 (.need true
 (.need true
 (.ret ⟨(.ret (vS ((⟨#[]⟩ : ByteArray)))), .none, [[(.slice 4 (l) .no), (vI (z)), (vI (a)), (vI (e)), (vI (b))]]⟩))))
 (.exI fun i =>
 (.exS fun s =>
 (.exI fun i1 =>
 (.exI fun i2 =>
 (.row (l) (IntKind.i64.wrap (IntKind.i64.wrap (a + 1) - 1)) [(vI (i)), (vS (s)), (vI (i1)), (vI (i2))]
 (.need true
 (.ret ⟨(.ret (vS (s))), .none, [[(.slice 4 (l) .no), (vI (z)), (vI (IntKind.i64.wrap (a + 1))), (vI (e)), (vI (b))]]⟩)))))))))) := by kernel_rfl
theorem X_rdotted_eq (l : List (List AV)) (z : Int) (a : Int) (e : Int) (b : Int) : kt5 f_waferref05_Reader_dotted [AV.ptr 0 0] [[AV.slice 4 l Own.no, vI z, vI a, vI e, vI b]] =
 (.branch (decide (IntKind.i64.wrap (a + 1) < (↑l.length : Int)))
 (.exI fun i =>
 (.exS fun s =>
 (.exI fun i1 =>
 (.exI fun i2 =>
 (.row (l) (IntKind.i64.wrap (a + 1)) [(vI (i)), (vS (s)), (vI (i1)), (vI (i2))]
 (.branch (i == 6)
 (.exI fun i3 =>
 (.exS fun s1 =>
 (.exI fun i4 =>
 (.exI fun i5 =>
 (.row (l) (IntKind.i64.wrap (a + 1)) [(vI (i3)), (vS (s1)), (vI (i4)), (vI (i5))]
 (.need true
 (.ret ⟨(.ret (vB (s1.toList == (⟨#[46]⟩ : ByteArray).toList))), .none, [[(.slice 4 (l) .no), (vI (z)), (vI (a)), (vI (e)), (vI (b))]]⟩)))))))
 (.need true
 (.ret ⟨(.ret (vB false)), .none, [[(.slice 4 (l) .no), (vI (z)), (vI (a)), (vI (e)), (vI (b))]]⟩))))))))
 (.need true
 (.ret ⟨(.ret (vB false)), .none, [[(.slice 4 (l) .no), (vI (z)), (vI (a)), (vI (e)), (vI (b))]]⟩))) := by kernel_rfl
theorem X_rPath_eq (l : List (List AV)) (z : Int) (a : Int) (e : Int) (b : Int) (lo : Bool) : kt5 f_waferref05_Reader_Path [AV.ptr 0 0, vB lo] [[AV.slice 4 l Own.no, vI z, vI a, vI e, vI b]] =
 (.exR fun l1 =>
 (.exR fun l2 =>
 (.exI fun i =>
 (.exI fun i1 =>
 (.exI fun i2 =>
 (.exI fun i3 =>
 (.call f_waferref05_Reader_path [(.ptr 0 0), (vB (lo))] .none [[(.slice 4 (l) .no), (vI (z)), (vI (a)), (vI (e)), (vI (b))]] ⟨(.ret (.slice 1 (l1) .no)), .none, [[(.slice 4 (l2) .no), (vI (i)), (vI (i1)), (vI (i2)), (vI (i3))]]⟩
 (.branch (i2 != 0)
 (.need true
 (.ret ⟨(.ret (.slice 1 [] .no)), .none, [[(.slice 4 (l2) .no), (vI (i)), (vI (i1)), (vI (i2)), (vI (i3))]]⟩))
 (.exS fun s =>
 (.row (l1) (IntKind.i64.wrap ((↑l1.length : Int) - 1)) [(vS (s))]
 (.exY fun y =>
 (.byte (s) (0) (y)
 (.branch (!decide ((↑y.toNat : Int) ≥ 97) == lo)
 (.branch (i2 == 0)
 (.branch (decide (i1 < (↑l2.length : Int)))
 (.exI fun i4 =>
 (.exS fun s1 =>
 (.exI fun i5 =>
 (.exI fun i6 =>
 (.row (l2) (i1) [(vI (i4)), (vS (s1)), (vI (i5)), (vI (i6))]
 (.need true
 (.need true
 (.need true
 (.ret ⟨(.ret (.slice 1 [] .no)), .none, [[(.slice 4 (l2) .no), (vI (i)), (vI (i1)), (vI (11)), (vI (i6))]]⟩)))))))))
 (.need true
 (.need true
 (.need true
 (.ret ⟨(.ret (.slice 1 [] .no)), .none, [[(.slice 4 (l2) .no), (vI (i)), (vI (i1)), (vI (11)), (vI (i))]]⟩)))))
 (.need true
 (.need true
 (.ret ⟨(.ret (.slice 1 [] .no)), .none, [[(.slice 4 (l2) .no), (vI (i)), (vI (i1)), (vI (i2)), (vI (i3))]]⟩))))
 (.need true
 (.ret ⟨(.ret (.slice 1 (l1) .no)), .none, [[(.slice 4 (l2) .no), (vI (i)), (vI (i1)), (vI (i2)), (vI (i3))]]⟩))))))))))))))) := by kernel_rfl
@[irreducible] noncomputable def X_rpath (l : List (List AV)) (z : Int) (a : Int) (e : Int) (b : Int) (lo : Bool) : KT := kt5 f_waferref05_Reader_path [AV.ptr 0 0, vB lo] [[AV.slice 4 l Own.no, vI z, vI a, vI e, vI b]]
theorem X_rpath_eq (l : List (List AV)) (z : Int) (a : Int) (e : Int) (b : Int) (lo : Bool) : kt5 f_waferref05_Reader_path [AV.ptr 0 0, vB lo] [[AV.slice 4 l Own.no, vI z, vI a, vI e, vI b]] =
 ((X_rpath l z a e b lo)) /- LOOP f_waferref05_Reader_path block 0 at ⟨tm2 85 [(0, (.ptr 0 0)), (1, (vB (lo))), (5, (.slice 0 [] .full)), (6, (vI (a)))], lm2 85 [], ⟨[[(.slice 4 (l) .no), (vI (z)), (vI (a)), (vI (e)), (vI (b))]], [], .none, 1⟩⟩ -/ := by kernel_rfl
-- LOOP (X_rpath l z a e b lo)
end Go.Proofs
end

section
/- PARSE: the document's reader: what its functions come to; Is, kind, Take, Need, name, dotted -/
set_option linter.unusedVariables false
set_option linter.unusedSimpArgs false
set_option maxRecDepth 100000
open Go Go.Eng Go.Pa
open Go.Lx (T Tok)
namespace Go.Proofs
abbrev qH (L : List Tok) (z k e p : Nat) : Heap := [hp5 (tks L) z k e p]
/-- What a rule of the document's reader comes to, from where it goes on well. -/
def Qq {α : Type} (v : α → AV) (sh : AV → Prop) (F : Res α) (L : List Tok) (z : Nat) (r : CRes) : Prop :=
  match F with
  | .ok a l => ∃ k, L.drop k = l ∧ k ≤ L.length ∧ r = ⟨.ret (v a), .none, qH L z k 0 0⟩
  | .no e p => e ≠ 0 ∧ ∃ k x, sh x ∧ r = ⟨.ret x, .none, qH L z k e p⟩
def QC {α : Type} (v : α → AV) (sh : AV → Prop) (F : Res α) (L : List Tok) (z : Nat) (g : FuncId) (args : List AV) (H : Heap) : Prop := ∃ r, evp g args .none H = some r ∧ Qq v sh F L z r
/-- What has failed stays so. -/
def QB (sh : AV → Prop) (g : FuncId) (args : List AV) (L : List Tok) (z : Nat) : Prop := ∀ k e p : Nat, e ≠ 0 → ∃ x, sh x ∧ evp g args .none (qH L z k e p) = some ⟨.ret x, .none, qH L z k e p⟩
theorem qc_of {α : Type} {v : α → AV} {sh : AV → Prop} {F : Res α} {L : List Tok} {z : Nat} {g : FuncId} {args : List AV} {H : Heap} (h : (kt5 g args H).wp Pg cfg0 evp [] (Qq v sh F L z)) : QC v sh F L z g args H := kt5_ex h
/-- A failed state's end. -/
def Bq (sh : AV → Prop) (L : List Tok) (z k e p : Nat) (r : CRes) : Prop := ∃ x, sh x ∧ r = ⟨.ret x, .none, qH L z k e p⟩
theorem qb_of {sh : AV → Prop} {g : FuncId} {args : List AV} {L : List Tok} {z : Nat} (h : ∀ k e p : Nat, e ≠ 0 → (kt5 g args (qH L z k e p)).wp Pg cfg0 evp [] (Bq sh L z k e p)) : QB sh g args L z := fun k e p he => by
  obtain ⟨r, h1, x, h2, rfl⟩ := kt5_ex (h k e p he)
  exact ⟨x, h2, h1⟩
theorem qq_ok {α : Type} {v : α → AV} {sh : AV → Prop} {F : Res α} {L : List Tok} {z k : Nat} {a : α} {l : List Tok} {x : AV} (h : F = .ok a l) (hk : L.drop k = l) (hl : k ≤ L.length) (hx : x = v a) : Qq v sh F L z ⟨.ret x, .none, qH L z k 0 0⟩ := by
  subst h hx; exact ⟨k, hk, hl, rfl⟩
theorem qq_no {α : Type} {v : α → AV} {sh : AV → Prop} {F : Res α} {L : List Tok} {z k e p : Nat} {x : AV} (h : F = .no e p) (he : e ≠ 0) (hx : sh x) : Qq v sh F L z ⟨.ret x, .none, qH L z k e p⟩ := by
  subst h; exact ⟨he, k, x, hx, rfl⟩
def shStr (x : AV) : Prop := ∃ s, x = vS s
def shStrs (x : AV) : Prop := ∃ l, x = .slice 1 l .no
def shUnit (x : AV) : Prop := x = .tuple []
theorem dropc {L : List Tok} {k : Nat} {t : Tok} {r : List Tok} (h : L.drop k = t :: r) : k < L.length ∧ L[k]? = some t ∧ L.drop (k + 1) = r := by
  have h1 : k < L.length := by
    rcases Nat.lt_or_ge k L.length with h2 | h2
    · exact h2
    · rw [List.drop_of_length_le h2] at h; cases h
  rw [List.drop_eq_getElem_cons h1] at h
  injection h with e1 e2
  exact ⟨h1, by rw [List.getElem?_eq_getElem h1, e1], e2⟩
theorem dropn {L : List Tok} {k : Nat} (h : L.drop k = []) : L.length ≤ k := List.drop_eq_nil_iff.1 h
theorem rowk {L : List Tok} {k : Nat} {t : Tok} (h : L[k]? = some t) : (0 : Int) ≤ (k : Int) ∧ (tks L)[(k : Int).toNat]? = some [vI t.kind, vS ⟨t.text.toArray⟩, vI t.n, vI t.at_] :=
  ⟨Int.natCast_nonneg k, by rw [Int.toNat_natCast, tks, List.getElem?_map, h]; rfl⟩
theorem ne0i {e : Nat} (h : e ≠ 0) : ((e : Int) != 0) = true := by simp; omega
theorem eq0i {e : Nat} (h : e ≠ 0) : ((e : Int) == 0) = false := by simp; omega
theorem ge_len {L : List Tok} {k : Nat} {p : Prop} {t : Tok} {r : List Tok} (h : L.drop k = t :: r) (hd : decide ((k : Int) ≥ ((tks L).length : Int)) = true) : p := by
  have := (dropc h).1
  have := of_decide_eq_true hd
  simp only [tks, List.length_map] at this
  omega
theorem lt_len {L : List Tok} {k : Nat} {p : Prop} (h : L.drop k = []) (hd : decide ((k : Int) < ((tks L).length : Int)) = true) : p := by
  have := dropn h
  have := of_decide_eq_true hd
  simp only [tks, List.length_map] at this
  omega
theorem not_ge {L : List Tok} {k : Nat} {p : Prop} (h : L.drop k = []) (hd : decide ((k : Int) ≥ ((tks L).length : Int)) = false) : p := by
  have := dropn h
  have := of_decide_eq_false hd
  simp only [tks, List.length_map] at this
  omega
theorem not_lt {L : List Tok} {k : Nat} {p : Prop} {t : Tok} {r : List Tok} (h : L.drop k = t :: r) (hd : decide ((k : Int) < ((tks L).length : Int)) = false) : p := by
  have := (dropc h).1
  have := of_decide_eq_false hd
  simp only [tks, List.length_map] at this
  omega
theorem c_rIs (L : List Tok) (z k : Nat) (w : ByteArray) : evp f_waferref05_Reader_Is [.ptr 0 0, vS w] .none (qH L z k 0 0) = some ⟨.ret (vB (isW (tx w) (L.drop k))), .none, qH L z k 0 0⟩ := by
  refine kt5_is (wp_eq2 (X_rIs_eq ..) (wp_stage (wp_if2 (fun h => absurd h (by decide)) fun _ => ?_)))
  cases hD : L.drop k with
  | nil => exact wp_if2 (fun _ => wp_out ⟨rfl, wp_if2 nf (fun _ => ⟨rfl, rfl⟩)⟩) (not_ge hD)
  | cons t r =>
    refine wp_if2 (ge_len hD) (fun _ => wp_done (wp_eq2 (X_rIss1_eq ..) ⟨_, _, _, _, rowk (dropc hD).2.1, rfl, wp_if2 (fun _ => ?_) tf⟩))
    have e3 : ((t.kind : Int) == 3) = (t.kind == 3) := kq _ 3
    have e6 : ((t.kind : Int) == 6) = (t.kind == 6) := kq _ 6
    rw [e3, e6]
    refine wp_if2 (fun h => ⟨rfl, retH (congrArg vB ?_)⟩) (fun h => wp_if2 (fun h6 => ⟨rfl, retH (congrArg vB ?_)⟩) (fun h6 => ⟨rfl, retH (congrArg vB ?_)⟩))
    · rw [beq_tx]; simp [isW, h, tx]
    · rw [beq_tx]; simp [isW, h6, tx]
    · simp [isW, h, h6]
theorem b_rIs (L : List Tok) (z k e p : Nat) (w : ByteArray) (he : e ≠ 0) : evp f_waferref05_Reader_Is [.ptr 0 0, vS w] .none (qH L z k e p) = some ⟨.ret (vB false), .none, qH L z k e p⟩ :=
  kt5_is (wp_eq2 (X_rIs_eq ..) (wp_stage (wp_if2 (fun _ => wp_out ⟨rfl, wp_if2 nf (fun _ => ⟨rfl, rfl⟩)⟩) (fun h => by rw [ne0i he] at h; cases h))))
theorem c_rkind (L : List Tok) (z k j : Nat) : evp f_waferref05_Reader_kind [.ptr 0 0, vI (j : Int)] .none (qH L z k 0 0) = some ⟨.ret (vB (ofK j (L.drop k))), .none, qH L z k 0 0⟩ := by
  refine kt5_is (wp_eq2 (X_rkind_eq ..) (wp_stage (wp_if2 (fun h => absurd h (by decide)) fun _ => ?_)))
  cases hD : L.drop k with
  | nil => exact wp_if2 (fun _ => wp_out ⟨rfl, wp_if2 nf (fun _ => ⟨rfl, rfl⟩)⟩) (not_ge hD)
  | cons t r =>
    refine wp_if2 (ge_len hD) (fun _ => wp_done (wp_eq2 (X_rkinds1_eq ..) ⟨_, _, _, _, rowk (dropc hD).2.1, rfl, wp_if2 (fun _ => ⟨rfl, retH (congrArg vB ?_)⟩) tf⟩))
    exact kq _ _
theorem b_rkind (L : List Tok) (z k e p j : Nat) (he : e ≠ 0) : evp f_waferref05_Reader_kind [.ptr 0 0, vI (j : Int)] .none (qH L z k e p) = some ⟨.ret (vB false), .none, qH L z k e p⟩ :=
  kt5_is (wp_eq2 (X_rkind_eq ..) (wp_stage (wp_if2 (fun _ => wp_out ⟨rfl, wp_if2 nf (fun _ => ⟨rfl, rfl⟩)⟩) (fun h => by rw [ne0i he] at h; cases h))))
/-- The heap behind Take. -/
abbrev tkH (L : List Tok) (z k : Nat) (w : ByteArray) : Heap := qH L z (if isW (tx w) (L.drop k) then k + 1 else k) 0 0
theorem c_rTake (L : List Tok) (z k : Nat) (w : ByteArray) (hL : L.length < BIG) : evp f_waferref05_Reader_Take [.ptr 0 0, vS w] .none (qH L z k 0 0) = some ⟨.ret (vB (isW (tx w) (L.drop k))), .none, tkH L z k w⟩ := by
  refine kt5_is (wp_eq2 (X_rTake_eq ..) ⟨_, c_rIs L z k w, ?_⟩)
  cases hb : isW (tx w) (L.drop k) with
  | false => exact wp_if2 (fun _ => ⟨rfl, by rw [tkH, hb]; rfl⟩) tf
  | true =>
    have hk : k < L.length := by
      cases hD : L.drop k with
      | nil => rw [hD] at hb; cases hb
      | cons t r => exact (dropc hD).1
    refine wp_if2 nf (fun _ => ⟨rfl, ?_⟩)
    rw [wrapU (by omega), tkH, hb]; rfl
theorem b_rTake (L : List Tok) (z k e p : Nat) (w : ByteArray) (he : e ≠ 0) : evp f_waferref05_Reader_Take [.ptr 0 0, vS w] .none (qH L z k e p) = some ⟨.ret (vB false), .none, qH L z k e p⟩ :=
  kt5_is (wp_eq2 (X_rTake_eq ..) ⟨_, b_rIs L z k e p w he, wp_if2 (fun _ => ⟨rfl, rfl⟩) tf⟩)
section
variable {QD : List (St → Prop)} {QR : CRes → Prop}
end
theorem c_rNeed {L : List Tok} {z k : Nat} {w : ByteArray} (hL : L.length < BIG) (hk : k ≤ L.length) : QC unitV shUnit (need z (tx w) (L.drop k)) L z f_waferref05_Reader_Need [.ptr 0 0, vS w] (qH L z k 0 0) := by
  have c := c_rTake L z k w hL
  refine qc_of (wp_eq2 (X_rNeed_eq ..) ?_)
  cases hb : isW (tx w) (L.drop k) with
  | true =>
    rw [tkH, hb] at c
    have hd : L.drop (k + 1) = (L.drop k).tail ∧ k + 1 ≤ L.length := by
      cases hD : L.drop k with
      | nil => rw [hD] at hb; cases hb
      | cons t r => exact ⟨(dropc hD).2.2, (dropc hD).1⟩
    exact ⟨true, _, _, _, _, _, c, wp_if2 nf (fun _ => ⟨rfl, qq_ok (k := k + 1) (by unfold need; rw [if_pos hb]) hd.1 hd.2 rfl⟩)⟩
  | false =>
    rw [tkH, hb] at c
    have hn : need z (tx w) (L.drop k) = .no 11 (pl z (L.drop k)) := by unfold need; rw [if_neg (by rw [hb]; decide)]
    refine ⟨false, _, _, _, _, _, c, wp_if2 (fun _ => wp_if2 (fun _ => ?_) (fun h => absurd h (by decide))) tf⟩
    cases hD : L.drop k with
    | nil =>
      rw [hD] at hn
      exact wp_if2 (lt_len hD) (fun _ => ⟨rfl, rfl, rfl, qq_no (k := k) (e := 11) hn (by decide) rfl⟩)
    | cons t r =>
      rw [hD] at hn
      exact wp_if2 (fun _ => ⟨_, _, _, _, rowk (dropc hD).2.1, rfl, rfl, rfl, qq_no (k := k) (e := 11) hn (by decide) rfl⟩) (not_lt hD)
theorem b_rNeed {L : List Tok} {z : Nat} {w : ByteArray} : QB shUnit f_waferref05_Reader_Need [.ptr 0 0, vS w] L z := qb_of fun k e p he =>
  wp_eq2 (X_rNeed_eq ..) ⟨false, _, _, _, _, _, b_rTake L z k e p w he, wp_if2 (fun _ => wp_if2 (fun h => by rw [eq0i he] at h; cases h) (fun _ => ⟨rfl, rfl, _, rfl, rfl⟩)) tf⟩
theorem c_rname {L : List Tok} {z k j : Nat} (hL : L.length < BIG) (hk : k ≤ L.length) : QC strV shStr (taken z j (L.drop k)) L z f_waferref05_Reader_name [.ptr 0 0, vI (j : Int)] (qH L z k 0 0) := by
  refine qc_of (wp_eq2 (X_rname_eq ..) ⟨_, c_rkind L z k j, ?_⟩)
  cases hD : L.drop k with
  | nil => exact wp_if2 (fun _ => wp_if2 (fun _ => wp_if2 (lt_len hD) (fun _ => ⟨rfl, rfl, rfl, qq_no (k := k) (e := 11) (p := z) rfl (by decide) ⟨_, rfl⟩⟩)) (fun h => absurd h (by decide))) tf
  | cons t r =>
    obtain ⟨d1, d2, d3⟩ := dropc hD
    cases hj : t.kind == j with
    | false =>
      have : ofK j (t :: r) = false := hj
      rw [this]
      exact wp_if2 (fun _ => wp_if2 (fun _ => wp_if2 (fun _ => ⟨_, _, _, _, rowk d2, rfl, rfl, rfl, qq_no (k := k) (e := 11) (p := t.at_) (by simp only [taken, hj, Bool.false_eq_true, if_false]) (by decide) ⟨_, rfl⟩⟩) (not_lt hD)) (fun h => absurd h (by decide))) tf
    | true =>
      have : ofK j (t :: r) = true := hj
      rw [this]
      have h1 : IntKind.i64.wrap (IntKind.i64.wrap ((k : Int) + 1) - 1) = (k : Int) := by rw [wrapU (by omega), wrapD (by omega)]
      have h2 : IntKind.i64.wrap ((k : Int) + 1) = ((k + 1 : Nat) : Int) := wrapU (by omega)
      refine wp_if2 nf (fun _ => ?_)
      rw [h1, h2]
      exact ⟨_, _, _, _, rowk d2, rfl, qq_ok (k := k + 1) (a := t.text) (by simp only [taken, hj, if_true]) d3 d1 rfl⟩
/-- Does a point stand behind the next one? -/
def dotB (l : List Tok) : Bool :=
  match l with
  | _ :: u :: _ => u.kind == 6 && decide (u.text = wDot)
  | _ => false
theorem c_rdotted {L : List Tok} {z k : Nat} (e p : Nat) (hL : L.length < BIG) (hk : k < L.length) : evp f_waferref05_Reader_dotted [.ptr 0 0] .none (qH L z k e p) = some ⟨.ret (vB (dotB (L.drop k))), .none, qH L z k e p⟩ := by
  have h2 : IntKind.i64.wrap ((k : Int) + 1) = ((k + 1 : Nat) : Int) := wrapU (by omega)
  refine kt5_is (wp_eq2 (X_rdotted_eq ..) ?_)
  rw [h2, List.drop_eq_getElem_cons hk]
  cases hD : L.drop (k + 1) with
  | nil => exact wp_if2 (lt_len hD) (fun _ => ⟨rfl, rfl⟩)
  | cons t r =>
    obtain ⟨d1, d2, d3⟩ := dropc hD
    have e6 : ((t.kind : Int) == 6) = (t.kind == 6) := kq _ 6
    refine wp_if2 (fun _ => ⟨_, _, _, _, rowk d2, ?_⟩) (not_lt hD)
    rw [e6]
    refine wp_if2 (fun h => ⟨_, _, _, _, rowk d2, rfl, retH (congrArg vB ?_)⟩) (fun h => ⟨rfl, retH (congrArg vB ?_)⟩)
    · rw [beq_tx]
      show _ = (t.kind == 6 && decide (t.text = wDot))
      rw [h, Bool.true_and]
      exact decide_eq_decide.2 Iff.rfl
    · simp [dotB, h]
end Go.Proofs
end

section
/- TREES, printed by kt.py out of y4.txt -/
open Go Go.Eng
namespace Go.Proofs
set_option linter.unusedVariables false
set_option maxRecDepth 100000
@[irreducible] noncomputable def Y_rpath (l : List (List AV)) (z a e b : Int) (lo : Bool) : KT := kt5 f_waferref05_Reader_path [.ptr 0 0, vB lo] [[.slice 4 l .no, vI z, vI a, vI e, vI b]]
@[irreducible] noncomputable def Y_rpA1 (l : List (List AV)) (z a e b : Int) (lo : Bool) (m : List (List AV)) (f z' a' e' b' : Int) (b1 b2 : Bool) : St → KT := (((((Y_rpath l z a e b lo).round Pg cfg0 rs0 kc5 ⟨tm2 85 [(0, (.ptr 0 0)), (1, (vB (lo))), (5, (.slice 0 [] .full)), (6, (vI (f)))], lm2 85 [], ⟨[[(.slice 4 (m) .no), (vI (z')), (vI (a')), (vI (e')), (vI (b'))]], [], .none, 1⟩⟩).B b1).T.T.B b2).T.F.T.K)
@[irreducible] noncomputable def Y_rpA2 (l : List (List AV)) (z a e b : Int) (lo : Bool) (m : List (List AV)) (f z' a' e' b' : Int) (b1 : Bool) : St → KT := ((((Y_rpath l z a e b lo).round Pg cfg0 rs0 kc5 ⟨tm2 85 [(0, (.ptr 0 0)), (1, (vB (lo))), (5, (.slice 0 [] .full)), (6, (vI (f)))], lm2 85 [], ⟨[[(.slice 4 (m) .no), (vI (z')), (vI (a')), (vI (e')), (vI (b'))]], [], .none, 1⟩⟩).B b1).T.F.T.K)
@[irreducible] noncomputable def Y_rpB1 (l : List (List AV)) (z a e b : Int) (lo : Bool) (p : List (List AV)) (m : List (List AV)) (f z' a' e' b' : Int) (b1 b2 : Bool) : St → KT := (((((Y_rpath l z a e b lo).round Pg cfg0 rs0 kc5 ⟨tm2 85 [(0, (.ptr 0 0)), (1, (vB (lo))), (5, (.slice 1 p .yes)), (6, (vI (f)))], lm2 85 [], ⟨[[(.slice 4 (m) .no), (vI (z')), (vI (a')), (vI (e')), (vI (b'))]], [], .none, 1⟩⟩).B b1).T.T.B b2).T.F.T.K)
@[irreducible] noncomputable def Y_rpB2 (l : List (List AV)) (z a e b : Int) (lo : Bool) (p : List (List AV)) (m : List (List AV)) (f z' a' e' b' : Int) (b1 : Bool) : St → KT := ((((Y_rpath l z a e b lo).round Pg cfg0 rs0 kc5 ⟨tm2 85 [(0, (.ptr 0 0)), (1, (vB (lo))), (5, (.slice 1 p .yes)), (6, (vI (f)))], lm2 85 [], ⟨[[(.slice 4 (m) .no), (vI (z')), (vI (a')), (vI (e')), (vI (b'))]], [], .none, 1⟩⟩).B b1).T.F.T.K)
@[irreducible] noncomputable def X_rpathA (l : List (List AV)) (z : Int) (a : Int) (e : Int) (b : Int) (lo : Bool) (m : List (List AV)) (f : Int) (z' : Int) (a' : Int) (e' : Int) (b' : Int) : KT := KT.round Pg cfg0 rs0 kc5 (Y_rpath l z a e b lo) { tmps := tm2 85 [(0, AV.ptr 0 0), (1, vB lo), (5, AV.slice 0 [] Own.full), (6, vI f)], lh := lm2 85 [], g := { H := [[AV.slice 4 m Own.no, vI z', vI a', vI e', vI b']], defers := [], rm := RM.none, base := 1 } }
theorem X_rpathA_eq (l : List (List AV)) (z : Int) (a : Int) (e : Int) (b : Int) (lo : Bool) (m : List (List AV)) (f : Int) (z' : Int) (a' : Int) (e' : Int) (b' : Int) : KT.round Pg cfg0 rs0 kc5 (Y_rpath l z a e b lo) { tmps := tm2 85 [(0, AV.ptr 0 0), (1, vB lo), (5, AV.slice 0 [] Own.full), (6, vI f)], lh := lm2 85 [], g := { H := [[AV.slice 4 m Own.no, vI z', vI a', vI e', vI b']], defers := [], rm := RM.none, base := 1 } } =
 (.exB fun b1 =>
 (.call f_waferref05_Reader_kind [(.ptr 0 0), (vI (2))] .none [[(.slice 4 (m) .no), (vI (z')), (vI (a')), (vI (e')), (vI (b'))]] ⟨(.ret (vB (b1))), .none, [[(.slice 4 (m) .no), (vI (z')), (vI (a')), (vI (e')), (vI (b'))]]⟩
 (.branch (b1)
 (.exB fun b2 =>
 (.call f_waferref05_Reader_dotted [(.ptr 0 0)] .none [[(.slice 4 (m) .no), (vI (z')), (vI (a')), (vI (e')), (vI (b'))]] ⟨(.ret (vB (b2))), .none, [[(.slice 4 (m) .no), (vI (z')), (vI (a')), (vI (e')), (vI (b'))]]⟩
 (.branch (b2)
 (.exI fun i =>
 (.exS fun s =>
 (.exI fun i1 =>
 (.exI fun i2 =>
 (.row (m) (a') [(vI (i)), (vS (s)), (vI (i1)), (vI (i2))]
 (.need true
 (.done ⟨tm2 85 [(0, (.ptr 0 0)), (1, (vB (lo))), (5, (.slice 1 [[(vS (s))]] .yes)), (6, (vI (f)))], lm2 85 [], ⟨[[(.slice 4 (m) .no), (vI (z')), (vI (IntKind.i64.wrap (a' + 2))), (vI (e')), (vI (b'))]], [], .none, 1⟩⟩)))))))
 (.out (.stage
 (.branch (lo)
 (.exB fun b3 =>
 (.call f_waferref05_Reader_kind [(.ptr 0 0), (vI (1))] .none [[(.slice 4 (m) .no), (vI (z')), (vI (a')), (vI (e')), (vI (b'))]] ⟨(.ret (vB (b3))), .none, [[(.slice 4 (m) .no), (vI (z')), (vI (a')), (vI (e')), (vI (b'))]]⟩
 (.branch (b3)
 (.exI fun i =>
 (.exS fun s =>
 (.exI fun i1 =>
 (.exI fun i2 =>
 (.row (m) (IntKind.i64.wrap (IntKind.i64.wrap (a' + 1) - 1)) [(vI (i)), (vS (s)), (vI (i1)), (vI (i2))]
 (.need true
 (.done ⟨tm2 85 [(0, (.ptr 0 0)), (5, (.slice 1 [[(vS (s))]] .yes)), (6, (vI (f)))], lm2 85 [], ⟨[[(.slice 4 (m) .no), (vI (z')), (vI (IntKind.i64.wrap (a' + 1))), (vI (e')), (vI (b'))]], [], .none, 1⟩⟩)))))))
 (.exB fun b4 =>
 (.call f_waferref05_Reader_kind [(.ptr 0 0), (vI (2))] .none [[(.slice 4 (m) .no), (vI (z')), (vI (a')), (vI (e')), (vI (b'))]] ⟨(.ret (vB (b4))), .none, [[(.slice 4 (m) .no), (vI (z')), (vI (a')), (vI (e')), (vI (b'))]]⟩
 (.branch (b4)
 (.exI fun i =>
 (.exS fun s =>
 (.exI fun i1 =>
 (.exI fun i2 =>
 (.row (m) (IntKind.i64.wrap (IntKind.i64.wrap (a' + 1) - 1)) [(vI (i)), (vS (s)), (vI (i1)), (vI (i2))]
 (.need true
 (.done ⟨tm2 85 [(0, (.ptr 0 0)), (5, (.slice 1 [[(vS (s))]] .yes)), (6, (vI (f)))], lm2 85 [], ⟨[[(.slice 4 (m) .no), (vI (z')), (vI (IntKind.i64.wrap (a' + 1))), (vI (e')), (vI (b'))]], [], .none, 1⟩⟩)))))))
 (.branch (decide ((↑([] : List (List AV)).length : Int) ≤ 8))
 (.branch (e' == 0)
 (.branch (decide (a' < (↑m.length : Int)))
 (.exI fun i =>
 (.exS fun s =>
 (.exI fun i1 =>
 (.exI fun i2 =>
 (.row (m) (a') [(vI (i)), (vS (s)), (vI (i1)), (vI (i2))]
 (.need true
 (.need true
 (.done ⟨tm2 85 [(0, (.ptr 0 0)), (5, (.slice 0 [] .full)), (6, (vI (f)))], lm2 85 [], ⟨[[(.slice 4 (m) .no), (vI (z')), (vI (a')), (vI (11)), (vI (i2))]], [], .none, 1⟩⟩))))))))
 (.need true
 (.need true
 (.done ⟨tm2 85 [(0, (.ptr 0 0)), (5, (.slice 0 [] .full)), (6, (vI (f)))], lm2 85 [], ⟨[[(.slice 4 (m) .no), (vI (z')), (vI (a')), (vI (11)), (vI (z'))]], [], .none, 1⟩⟩))))
 (.need true
 (.done ⟨tm2 85 [(0, (.ptr 0 0)), (5, (.slice 0 [] .full)), (6, (vI (f)))], lm2 85 [], ⟨[[(.slice 4 (m) .no), (vI (z')), (vI (a')), (vI (e')), (vI (b'))]], [], .none, 1⟩⟩)))
 (.done ⟨tm2 85 [(0, (.ptr 0 0)), (5, (.slice 0 [] .full)), (6, (vI (f)))], lm2 85 [], ⟨[[(.slice 4 (m) .no), (vI (z')), (vI (a')), (vI (e')), (vI (b'))]], [], .none, 1⟩⟩))))))))
 (.exB fun b3 =>
 (.call f_waferref05_Reader_kind [(.ptr 0 0), (vI (2))] .none [[(.slice 4 (m) .no), (vI (z')), (vI (a')), (vI (e')), (vI (b'))]] ⟨(.ret (vB (b3))), .none, [[(.slice 4 (m) .no), (vI (z')), (vI (a')), (vI (e')), (vI (b'))]]⟩
 (.branch (b3)
 (.exI fun i =>
 (.exS fun s =>
 (.exI fun i1 =>
 (.exI fun i2 =>
 (.row (m) (IntKind.i64.wrap (IntKind.i64.wrap (a' + 1) - 1)) [(vI (i)), (vS (s)), (vI (i1)), (vI (i2))]
 (.need true
 (.done ⟨tm2 85 [(0, (.ptr 0 0)), (5, (.slice 1 [[(vS (s))]] .yes)), (6, (vI (f)))], lm2 85 [], ⟨[[(.slice 4 (m) .no), (vI (z')), (vI (IntKind.i64.wrap (a' + 1))), (vI (e')), (vI (b'))]], [], .none, 1⟩⟩)))))))
 (.branch (decide ((↑([] : List (List AV)).length : Int) ≤ 8))
 (.branch (e' == 0)
 (.branch (decide (a' < (↑m.length : Int)))
 (.exI fun i =>
 (.exS fun s =>
 (.exI fun i1 =>
 (.exI fun i2 =>
 (.row (m) (a') [(vI (i)), (vS (s)), (vI (i1)), (vI (i2))]
 (.need true
 (.need true
 (.done ⟨tm2 85 [(0, (.ptr 0 0)), (5, (.slice 0 [] .full)), (6, (vI (f)))], lm2 85 [], ⟨[[(.slice 4 (m) .no), (vI (z')), (vI (a')), (vI (11)), (vI (i2))]], [], .none, 1⟩⟩))))))))
 (.need true
 (.need true
 (.done ⟨tm2 85 [(0, (.ptr 0 0)), (5, (.slice 0 [] .full)), (6, (vI (f)))], lm2 85 [], ⟨[[(.slice 4 (m) .no), (vI (z')), (vI (a')), (vI (11)), (vI (z'))]], [], .none, 1⟩⟩))))
 (.need true
 (.done ⟨tm2 85 [(0, (.ptr 0 0)), (5, (.slice 0 [] .full)), (6, (vI (f)))], lm2 85 [], ⟨[[(.slice 4 (m) .no), (vI (z')), (vI (a')), (vI (e')), (vI (b'))]], [], .none, 1⟩⟩)))
 (.done ⟨tm2 85 [(0, (.ptr 0 0)), (5, (.slice 0 [] .full)), (6, (vI (f)))], lm2 85 [], ⟨[[(.slice 4 (m) .no), (vI (z')), (vI (a')), (vI (e')), (vI (b'))]], [], .none, 1⟩⟩))))))
 ((((X_rpathA l z a e b lo m f z' a' e' b').B b1).T.T.B b2).T.F.T.K))))))
 (.out (.stage
 (.branch (lo)
 (.exB fun b2 =>
 (.call f_waferref05_Reader_kind [(.ptr 0 0), (vI (1))] .none [[(.slice 4 (m) .no), (vI (z')), (vI (a')), (vI (e')), (vI (b'))]] ⟨(.ret (vB (b2))), .none, [[(.slice 4 (m) .no), (vI (z')), (vI (a')), (vI (e')), (vI (b'))]]⟩
 (.branch (b2)
 (.exI fun i =>
 (.exS fun s =>
 (.exI fun i1 =>
 (.exI fun i2 =>
 (.row (m) (IntKind.i64.wrap (IntKind.i64.wrap (a' + 1) - 1)) [(vI (i)), (vS (s)), (vI (i1)), (vI (i2))]
 (.need true
 (.done ⟨tm2 85 [(0, (.ptr 0 0)), (5, (.slice 1 [[(vS (s))]] .yes)), (6, (vI (f)))], lm2 85 [], ⟨[[(.slice 4 (m) .no), (vI (z')), (vI (IntKind.i64.wrap (a' + 1))), (vI (e')), (vI (b'))]], [], .none, 1⟩⟩)))))))
 (.exB fun b3 =>
 (.call f_waferref05_Reader_kind [(.ptr 0 0), (vI (2))] .none [[(.slice 4 (m) .no), (vI (z')), (vI (a')), (vI (e')), (vI (b'))]] ⟨(.ret (vB (b3))), .none, [[(.slice 4 (m) .no), (vI (z')), (vI (a')), (vI (e')), (vI (b'))]]⟩
 (.branch (b3)
 (.exI fun i =>
 (.exS fun s =>
 (.exI fun i1 =>
 (.exI fun i2 =>
 (.row (m) (IntKind.i64.wrap (IntKind.i64.wrap (a' + 1) - 1)) [(vI (i)), (vS (s)), (vI (i1)), (vI (i2))]
 (.need true
 (.done ⟨tm2 85 [(0, (.ptr 0 0)), (5, (.slice 1 [[(vS (s))]] .yes)), (6, (vI (f)))], lm2 85 [], ⟨[[(.slice 4 (m) .no), (vI (z')), (vI (IntKind.i64.wrap (a' + 1))), (vI (e')), (vI (b'))]], [], .none, 1⟩⟩)))))))
 (.branch (decide ((↑([] : List (List AV)).length : Int) ≤ 8))
 (.branch (e' == 0)
 (.branch (decide (a' < (↑m.length : Int)))
 (.exI fun i =>
 (.exS fun s =>
 (.exI fun i1 =>
 (.exI fun i2 =>
 (.row (m) (a') [(vI (i)), (vS (s)), (vI (i1)), (vI (i2))]
 (.need true
 (.need true
 (.done ⟨tm2 85 [(0, (.ptr 0 0)), (5, (.slice 0 [] .full)), (6, (vI (f)))], lm2 85 [], ⟨[[(.slice 4 (m) .no), (vI (z')), (vI (a')), (vI (11)), (vI (i2))]], [], .none, 1⟩⟩))))))))
 (.need true
 (.need true
 (.done ⟨tm2 85 [(0, (.ptr 0 0)), (5, (.slice 0 [] .full)), (6, (vI (f)))], lm2 85 [], ⟨[[(.slice 4 (m) .no), (vI (z')), (vI (a')), (vI (11)), (vI (z'))]], [], .none, 1⟩⟩))))
 (.need true
 (.done ⟨tm2 85 [(0, (.ptr 0 0)), (5, (.slice 0 [] .full)), (6, (vI (f)))], lm2 85 [], ⟨[[(.slice 4 (m) .no), (vI (z')), (vI (a')), (vI (e')), (vI (b'))]], [], .none, 1⟩⟩)))
 (.done ⟨tm2 85 [(0, (.ptr 0 0)), (5, (.slice 0 [] .full)), (6, (vI (f)))], lm2 85 [], ⟨[[(.slice 4 (m) .no), (vI (z')), (vI (a')), (vI (e')), (vI (b'))]], [], .none, 1⟩⟩))))))))
 (.exB fun b2 =>
 (.call f_waferref05_Reader_kind [(.ptr 0 0), (vI (2))] .none [[(.slice 4 (m) .no), (vI (z')), (vI (a')), (vI (e')), (vI (b'))]] ⟨(.ret (vB (b2))), .none, [[(.slice 4 (m) .no), (vI (z')), (vI (a')), (vI (e')), (vI (b'))]]⟩
 (.branch (b2)
 (.exI fun i =>
 (.exS fun s =>
 (.exI fun i1 =>
 (.exI fun i2 =>
 (.row (m) (IntKind.i64.wrap (IntKind.i64.wrap (a' + 1) - 1)) [(vI (i)), (vS (s)), (vI (i1)), (vI (i2))]
 (.need true
 (.done ⟨tm2 85 [(0, (.ptr 0 0)), (5, (.slice 1 [[(vS (s))]] .yes)), (6, (vI (f)))], lm2 85 [], ⟨[[(.slice 4 (m) .no), (vI (z')), (vI (IntKind.i64.wrap (a' + 1))), (vI (e')), (vI (b'))]], [], .none, 1⟩⟩)))))))
 (.branch (decide ((↑([] : List (List AV)).length : Int) ≤ 8))
 (.branch (e' == 0)
 (.branch (decide (a' < (↑m.length : Int)))
 (.exI fun i =>
 (.exS fun s =>
 (.exI fun i1 =>
 (.exI fun i2 =>
 (.row (m) (a') [(vI (i)), (vS (s)), (vI (i1)), (vI (i2))]
 (.need true
 (.need true
 (.done ⟨tm2 85 [(0, (.ptr 0 0)), (5, (.slice 0 [] .full)), (6, (vI (f)))], lm2 85 [], ⟨[[(.slice 4 (m) .no), (vI (z')), (vI (a')), (vI (11)), (vI (i2))]], [], .none, 1⟩⟩))))))))
 (.need true
 (.need true
 (.done ⟨tm2 85 [(0, (.ptr 0 0)), (5, (.slice 0 [] .full)), (6, (vI (f)))], lm2 85 [], ⟨[[(.slice 4 (m) .no), (vI (z')), (vI (a')), (vI (11)), (vI (z'))]], [], .none, 1⟩⟩))))
 (.need true
 (.done ⟨tm2 85 [(0, (.ptr 0 0)), (5, (.slice 0 [] .full)), (6, (vI (f)))], lm2 85 [], ⟨[[(.slice 4 (m) .no), (vI (z')), (vI (a')), (vI (e')), (vI (b'))]], [], .none, 1⟩⟩)))
 (.done ⟨tm2 85 [(0, (.ptr 0 0)), (5, (.slice 0 [] .full)), (6, (vI (f)))], lm2 85 [], ⟨[[(.slice 4 (m) .no), (vI (z')), (vI (a')), (vI (e')), (vI (b'))]], [], .none, 1⟩⟩))))))
 (((X_rpathA l z a e b lo m f z' a' e' b').B b1).T.F.T.K)))))) := by kernel_rfl
-- STAGE X_rpathAs2: told for any #[q2x0, q2x1, q2x2, q2x3, q2x4, q2x5]
-- STAGE X_rpathAs1: told for any #[q1x0, q1x1, q1x2, q1x3, q1x4, q1x5]
@[irreducible] noncomputable def X_rpathB (l : List (List AV)) (z : Int) (a : Int) (e : Int) (b : Int) (lo : Bool) (p : List (List AV)) (m : List (List AV)) (f : Int) (z' : Int) (a' : Int) (e' : Int) (b' : Int) : KT := KT.round Pg cfg0 rs0 kc5 (Y_rpath l z a e b lo) { tmps := tm2 85 [(0, AV.ptr 0 0), (1, vB lo), (5, AV.slice 1 p Own.yes), (6, vI f)], lh := lm2 85 [], g := { H := [[AV.slice 4 m Own.no, vI z', vI a', vI e', vI b']], defers := [], rm := RM.none, base := 1 } }
theorem X_rpathB_eq (l : List (List AV)) (z : Int) (a : Int) (e : Int) (b : Int) (lo : Bool) (p : List (List AV)) (m : List (List AV)) (f : Int) (z' : Int) (a' : Int) (e' : Int) (b' : Int) : KT.round Pg cfg0 rs0 kc5 (Y_rpath l z a e b lo) { tmps := tm2 85 [(0, AV.ptr 0 0), (1, vB lo), (5, AV.slice 1 p Own.yes), (6, vI f)], lh := lm2 85 [], g := { H := [[AV.slice 4 m Own.no, vI z', vI a', vI e', vI b']], defers := [], rm := RM.none, base := 1 } } =
 (.exB fun b1 =>
 (.call f_waferref05_Reader_kind [(.ptr 0 0), (vI (2))] .none [[(.slice 4 (m) .no), (vI (z')), (vI (a')), (vI (e')), (vI (b'))]] ⟨(.ret (vB (b1))), .none, [[(.slice 4 (m) .no), (vI (z')), (vI (a')), (vI (e')), (vI (b'))]]⟩
 (.branch (b1)
 (.exB fun b2 =>
 (.call f_waferref05_Reader_dotted [(.ptr 0 0)] .none [[(.slice 4 (m) .no), (vI (z')), (vI (a')), (vI (e')), (vI (b'))]] ⟨(.ret (vB (b2))), .none, [[(.slice 4 (m) .no), (vI (z')), (vI (a')), (vI (e')), (vI (b'))]]⟩
 (.branch (b2)
 (.exI fun i =>
 (.exS fun s =>
 (.exI fun i1 =>
 (.exI fun i2 =>
 (.row (m) (a') [(vI (i)), (vS (s)), (vI (i1)), (vI (i2))]
 (.need ((p.length + [[normS Pg y_string (AV.val (Value.string s)).dis]].length).ble 2147483648)
 (.done ⟨tm2 85 [(0, (.ptr 0 0)), (1, (vB (lo))), (5, (.slice 1 (p ++ List.map (fun x => List.map AV.dis x) [[normS Pg y_string (AV.val (Value.string s)).dis]]) .yes)), (6, (vI (f)))], lm2 85 [], ⟨[[(.slice 4 (m) .no), (vI (z')), (vI (IntKind.i64.wrap (a' + 2))), (vI (e')), (vI (b'))]], [], .none, 1⟩⟩)))))))
 (.out (.stage
 (.branch (lo)
 (.exB fun b3 =>
 (.call f_waferref05_Reader_kind [(.ptr 0 0), (vI (1))] .none [[(.slice 4 (m) .no), (vI (z')), (vI (a')), (vI (e')), (vI (b'))]] ⟨(.ret (vB (b3))), .none, [[(.slice 4 (m) .no), (vI (z')), (vI (a')), (vI (e')), (vI (b'))]]⟩
 (.branch (b3)
 (.exI fun i =>
 (.exS fun s =>
 (.exI fun i1 =>
 (.exI fun i2 =>
 (.row (m) (IntKind.i64.wrap (IntKind.i64.wrap (a' + 1) - 1)) [(vI (i)), (vS (s)), (vI (i1)), (vI (i2))]
 (.need ((p.length + [[normS Pg y_string (AV.val (Value.string s)).dis]].length).ble 2147483648)
 (.done ⟨tm2 85 [(0, (.ptr 0 0)), (5, (.slice 1 (p ++ List.map (fun x => List.map AV.dis x) [[normS Pg y_string (AV.val (Value.string s)).dis]]) .yes)), (6, (vI (f)))], lm2 85 [], ⟨[[(.slice 4 (m) .no), (vI (z')), (vI (IntKind.i64.wrap (a' + 1))), (vI (e')), (vI (b'))]], [], .none, 1⟩⟩)))))))
 (.exB fun b4 =>
 (.call f_waferref05_Reader_kind [(.ptr 0 0), (vI (2))] .none [[(.slice 4 (m) .no), (vI (z')), (vI (a')), (vI (e')), (vI (b'))]] ⟨(.ret (vB (b4))), .none, [[(.slice 4 (m) .no), (vI (z')), (vI (a')), (vI (e')), (vI (b'))]]⟩
 (.branch (b4)
 (.exI fun i =>
 (.exS fun s =>
 (.exI fun i1 =>
 (.exI fun i2 =>
 (.row (m) (IntKind.i64.wrap (IntKind.i64.wrap (a' + 1) - 1)) [(vI (i)), (vS (s)), (vI (i1)), (vI (i2))]
 (.need ((p.length + [[normS Pg y_string (AV.val (Value.string s)).dis]].length).ble 2147483648)
 (.done ⟨tm2 85 [(0, (.ptr 0 0)), (5, (.slice 1 (p ++ List.map (fun x => List.map AV.dis x) [[normS Pg y_string (AV.val (Value.string s)).dis]]) .yes)), (6, (vI (f)))], lm2 85 [], ⟨[[(.slice 4 (m) .no), (vI (z')), (vI (IntKind.i64.wrap (a' + 1))), (vI (e')), (vI (b'))]], [], .none, 1⟩⟩)))))))
 (.branch (decide ((↑p.length : Int) ≤ 8))
 (.branch (e' == 0)
 (.branch (decide (a' < (↑m.length : Int)))
 (.exI fun i =>
 (.exS fun s =>
 (.exI fun i1 =>
 (.exI fun i2 =>
 (.row (m) (a') [(vI (i)), (vS (s)), (vI (i1)), (vI (i2))]
 (.need true
 (.need true
 (.done ⟨tm2 85 [(0, (.ptr 0 0)), (5, (.slice 1 (p) .yes)), (6, (vI (f)))], lm2 85 [], ⟨[[(.slice 4 (m) .no), (vI (z')), (vI (a')), (vI (11)), (vI (i2))]], [], .none, 1⟩⟩))))))))
 (.need true
 (.need true
 (.done ⟨tm2 85 [(0, (.ptr 0 0)), (5, (.slice 1 (p) .yes)), (6, (vI (f)))], lm2 85 [], ⟨[[(.slice 4 (m) .no), (vI (z')), (vI (a')), (vI (11)), (vI (z'))]], [], .none, 1⟩⟩))))
 (.need true
 (.done ⟨tm2 85 [(0, (.ptr 0 0)), (5, (.slice 1 (p) .yes)), (6, (vI (f)))], lm2 85 [], ⟨[[(.slice 4 (m) .no), (vI (z')), (vI (a')), (vI (e')), (vI (b'))]], [], .none, 1⟩⟩)))
 (.done ⟨tm2 85 [(0, (.ptr 0 0)), (5, (.slice 1 (p) .yes)), (6, (vI (f)))], lm2 85 [], ⟨[[(.slice 4 (m) .no), (vI (z')), (vI (a')), (vI (e')), (vI (b'))]], [], .none, 1⟩⟩))))))))
 (.exB fun b3 =>
 (.call f_waferref05_Reader_kind [(.ptr 0 0), (vI (2))] .none [[(.slice 4 (m) .no), (vI (z')), (vI (a')), (vI (e')), (vI (b'))]] ⟨(.ret (vB (b3))), .none, [[(.slice 4 (m) .no), (vI (z')), (vI (a')), (vI (e')), (vI (b'))]]⟩
 (.branch (b3)
 (.exI fun i =>
 (.exS fun s =>
 (.exI fun i1 =>
 (.exI fun i2 =>
 (.row (m) (IntKind.i64.wrap (IntKind.i64.wrap (a' + 1) - 1)) [(vI (i)), (vS (s)), (vI (i1)), (vI (i2))]
 (.need ((p.length + [[normS Pg y_string (AV.val (Value.string s)).dis]].length).ble 2147483648)
 (.done ⟨tm2 85 [(0, (.ptr 0 0)), (5, (.slice 1 (p ++ List.map (fun x => List.map AV.dis x) [[normS Pg y_string (AV.val (Value.string s)).dis]]) .yes)), (6, (vI (f)))], lm2 85 [], ⟨[[(.slice 4 (m) .no), (vI (z')), (vI (IntKind.i64.wrap (a' + 1))), (vI (e')), (vI (b'))]], [], .none, 1⟩⟩)))))))
 (.branch (decide ((↑p.length : Int) ≤ 8))
 (.branch (e' == 0)
 (.branch (decide (a' < (↑m.length : Int)))
 (.exI fun i =>
 (.exS fun s =>
 (.exI fun i1 =>
 (.exI fun i2 =>
 (.row (m) (a') [(vI (i)), (vS (s)), (vI (i1)), (vI (i2))]
 (.need true
 (.need true
 (.done ⟨tm2 85 [(0, (.ptr 0 0)), (5, (.slice 1 (p) .yes)), (6, (vI (f)))], lm2 85 [], ⟨[[(.slice 4 (m) .no), (vI (z')), (vI (a')), (vI (11)), (vI (i2))]], [], .none, 1⟩⟩))))))))
 (.need true
 (.need true
 (.done ⟨tm2 85 [(0, (.ptr 0 0)), (5, (.slice 1 (p) .yes)), (6, (vI (f)))], lm2 85 [], ⟨[[(.slice 4 (m) .no), (vI (z')), (vI (a')), (vI (11)), (vI (z'))]], [], .none, 1⟩⟩))))
 (.need true
 (.done ⟨tm2 85 [(0, (.ptr 0 0)), (5, (.slice 1 (p) .yes)), (6, (vI (f)))], lm2 85 [], ⟨[[(.slice 4 (m) .no), (vI (z')), (vI (a')), (vI (e')), (vI (b'))]], [], .none, 1⟩⟩)))
 (.done ⟨tm2 85 [(0, (.ptr 0 0)), (5, (.slice 1 (p) .yes)), (6, (vI (f)))], lm2 85 [], ⟨[[(.slice 4 (m) .no), (vI (z')), (vI (a')), (vI (e')), (vI (b'))]], [], .none, 1⟩⟩))))))
 ((((X_rpathB l z a e b lo p m f z' a' e' b').B b1).T.T.B b2).T.F.T.K))))))
 (.out (.stage
 (.branch (lo)
 (.exB fun b2 =>
 (.call f_waferref05_Reader_kind [(.ptr 0 0), (vI (1))] .none [[(.slice 4 (m) .no), (vI (z')), (vI (a')), (vI (e')), (vI (b'))]] ⟨(.ret (vB (b2))), .none, [[(.slice 4 (m) .no), (vI (z')), (vI (a')), (vI (e')), (vI (b'))]]⟩
 (.branch (b2)
 (.exI fun i =>
 (.exS fun s =>
 (.exI fun i1 =>
 (.exI fun i2 =>
 (.row (m) (IntKind.i64.wrap (IntKind.i64.wrap (a' + 1) - 1)) [(vI (i)), (vS (s)), (vI (i1)), (vI (i2))]
 (.need ((p.length + [[normS Pg y_string (AV.val (Value.string s)).dis]].length).ble 2147483648)
 (.done ⟨tm2 85 [(0, (.ptr 0 0)), (5, (.slice 1 (p ++ List.map (fun x => List.map AV.dis x) [[normS Pg y_string (AV.val (Value.string s)).dis]]) .yes)), (6, (vI (f)))], lm2 85 [], ⟨[[(.slice 4 (m) .no), (vI (z')), (vI (IntKind.i64.wrap (a' + 1))), (vI (e')), (vI (b'))]], [], .none, 1⟩⟩)))))))
 (.exB fun b3 =>
 (.call f_waferref05_Reader_kind [(.ptr 0 0), (vI (2))] .none [[(.slice 4 (m) .no), (vI (z')), (vI (a')), (vI (e')), (vI (b'))]] ⟨(.ret (vB (b3))), .none, [[(.slice 4 (m) .no), (vI (z')), (vI (a')), (vI (e')), (vI (b'))]]⟩
 (.branch (b3)
 (.exI fun i =>
 (.exS fun s =>
 (.exI fun i1 =>
 (.exI fun i2 =>
 (.row (m) (IntKind.i64.wrap (IntKind.i64.wrap (a' + 1) - 1)) [(vI (i)), (vS (s)), (vI (i1)), (vI (i2))]
 (.need ((p.length + [[normS Pg y_string (AV.val (Value.string s)).dis]].length).ble 2147483648)
 (.done ⟨tm2 85 [(0, (.ptr 0 0)), (5, (.slice 1 (p ++ List.map (fun x => List.map AV.dis x) [[normS Pg y_string (AV.val (Value.string s)).dis]]) .yes)), (6, (vI (f)))], lm2 85 [], ⟨[[(.slice 4 (m) .no), (vI (z')), (vI (IntKind.i64.wrap (a' + 1))), (vI (e')), (vI (b'))]], [], .none, 1⟩⟩)))))))
 (.branch (decide ((↑p.length : Int) ≤ 8))
 (.branch (e' == 0)
 (.branch (decide (a' < (↑m.length : Int)))
 (.exI fun i =>
 (.exS fun s =>
 (.exI fun i1 =>
 (.exI fun i2 =>
 (.row (m) (a') [(vI (i)), (vS (s)), (vI (i1)), (vI (i2))]
 (.need true
 (.need true
 (.done ⟨tm2 85 [(0, (.ptr 0 0)), (5, (.slice 1 (p) .yes)), (6, (vI (f)))], lm2 85 [], ⟨[[(.slice 4 (m) .no), (vI (z')), (vI (a')), (vI (11)), (vI (i2))]], [], .none, 1⟩⟩))))))))
 (.need true
 (.need true
 (.done ⟨tm2 85 [(0, (.ptr 0 0)), (5, (.slice 1 (p) .yes)), (6, (vI (f)))], lm2 85 [], ⟨[[(.slice 4 (m) .no), (vI (z')), (vI (a')), (vI (11)), (vI (z'))]], [], .none, 1⟩⟩))))
 (.need true
 (.done ⟨tm2 85 [(0, (.ptr 0 0)), (5, (.slice 1 (p) .yes)), (6, (vI (f)))], lm2 85 [], ⟨[[(.slice 4 (m) .no), (vI (z')), (vI (a')), (vI (e')), (vI (b'))]], [], .none, 1⟩⟩)))
 (.done ⟨tm2 85 [(0, (.ptr 0 0)), (5, (.slice 1 (p) .yes)), (6, (vI (f)))], lm2 85 [], ⟨[[(.slice 4 (m) .no), (vI (z')), (vI (a')), (vI (e')), (vI (b'))]], [], .none, 1⟩⟩))))))))
 (.exB fun b2 =>
 (.call f_waferref05_Reader_kind [(.ptr 0 0), (vI (2))] .none [[(.slice 4 (m) .no), (vI (z')), (vI (a')), (vI (e')), (vI (b'))]] ⟨(.ret (vB (b2))), .none, [[(.slice 4 (m) .no), (vI (z')), (vI (a')), (vI (e')), (vI (b'))]]⟩
 (.branch (b2)
 (.exI fun i =>
 (.exS fun s =>
 (.exI fun i1 =>
 (.exI fun i2 =>
 (.row (m) (IntKind.i64.wrap (IntKind.i64.wrap (a' + 1) - 1)) [(vI (i)), (vS (s)), (vI (i1)), (vI (i2))]
 (.need ((p.length + [[normS Pg y_string (AV.val (Value.string s)).dis]].length).ble 2147483648)
 (.done ⟨tm2 85 [(0, (.ptr 0 0)), (5, (.slice 1 (p ++ List.map (fun x => List.map AV.dis x) [[normS Pg y_string (AV.val (Value.string s)).dis]]) .yes)), (6, (vI (f)))], lm2 85 [], ⟨[[(.slice 4 (m) .no), (vI (z')), (vI (IntKind.i64.wrap (a' + 1))), (vI (e')), (vI (b'))]], [], .none, 1⟩⟩)))))))
 (.branch (decide ((↑p.length : Int) ≤ 8))
 (.branch (e' == 0)
 (.branch (decide (a' < (↑m.length : Int)))
 (.exI fun i =>
 (.exS fun s =>
 (.exI fun i1 =>
 (.exI fun i2 =>
 (.row (m) (a') [(vI (i)), (vS (s)), (vI (i1)), (vI (i2))]
 (.need true
 (.need true
 (.done ⟨tm2 85 [(0, (.ptr 0 0)), (5, (.slice 1 (p) .yes)), (6, (vI (f)))], lm2 85 [], ⟨[[(.slice 4 (m) .no), (vI (z')), (vI (a')), (vI (11)), (vI (i2))]], [], .none, 1⟩⟩))))))))
 (.need true
 (.need true
 (.done ⟨tm2 85 [(0, (.ptr 0 0)), (5, (.slice 1 (p) .yes)), (6, (vI (f)))], lm2 85 [], ⟨[[(.slice 4 (m) .no), (vI (z')), (vI (a')), (vI (11)), (vI (z'))]], [], .none, 1⟩⟩))))
 (.need true
 (.done ⟨tm2 85 [(0, (.ptr 0 0)), (5, (.slice 1 (p) .yes)), (6, (vI (f)))], lm2 85 [], ⟨[[(.slice 4 (m) .no), (vI (z')), (vI (a')), (vI (e')), (vI (b'))]], [], .none, 1⟩⟩)))
 (.done ⟨tm2 85 [(0, (.ptr 0 0)), (5, (.slice 1 (p) .yes)), (6, (vI (f)))], lm2 85 [], ⟨[[(.slice 4 (m) .no), (vI (z')), (vI (a')), (vI (e')), (vI (b'))]], [], .none, 1⟩⟩))))))
 (((X_rpathB l z a e b lo p m f z' a' e' b').B b1).T.F.T.K)))))) := by kernel_rfl
theorem X_rpA1n_eq (l : List (List AV)) (z : Int) (a : Int) (e : Int) (b : Int) (lo : Bool) (m : List (List AV)) (f : Int) (z' : Int) (a' : Int) (e' : Int) (b' : Int) (b1 : Bool) (b2 : Bool) (m2 : List (List AV)) (z2 : Int) (a2 : Int) (e2 : Int) (c2 : Int) : Y_rpA1 l z a e b lo m f z' a' e' b' b1 b2 { tmps := tm2 85 [(0, AV.ptr 0 0), (5, AV.slice 0 [] Own.full), (6, vI f)], lh := lm2 85 [], g := { H := [[AV.slice 4 m2 Own.no, vI z2, vI a2, vI e2, vI c2]], defers := [], rm := RM.none, base := 1 } } =
 (.branch (decide ((↑([] : List (List AV)).length : Int) > 8))
 (.branch (e2 == 0)
 (.branch (decide (f < (↑m2.length : Int)))
 (.exI fun i =>
 (.exS fun s =>
 (.exI fun i1 =>
 (.exI fun i2 =>
 (.row (m2) (f) [(vI (i)), (vS (s)), (vI (i1)), (vI (i2))]
 (.need true
 (.need true
 (.need true
 (.ret ⟨(.ret (.slice 1 [] .no)), .none, [[(.slice 4 (m2) .no), (vI (z2)), (vI (f)), (vI (3)), (vI (i2))]]⟩)))))))))
 (.need true
 (.need true
 (.need true
 (.ret ⟨(.ret (.slice 1 [] .no)), .none, [[(.slice 4 (m2) .no), (vI (z2)), (vI (f)), (vI (3)), (vI (z2))]]⟩)))))
 (.need true
 (.need true
 (.ret ⟨(.ret (.slice 1 [] .no)), .none, [[(.slice 4 (m2) .no), (vI (z2)), (vI (f)), (vI (e2)), (vI (c2))]]⟩))))
 (.need true
 (.ret ⟨(.ret (.slice 1 [] .no)), .none, [[(.slice 4 (m2) .no), (vI (z2)), (vI (a2)), (vI (e2)), (vI (c2))]]⟩))) := by kernel_rfl
theorem X_rpA1y_eq (l : List (List AV)) (z : Int) (a : Int) (e : Int) (b : Int) (lo : Bool) (m : List (List AV)) (f : Int) (z' : Int) (a' : Int) (e' : Int) (b' : Int) (b1 : Bool) (b2 : Bool) (p2 : List (List AV)) (m2 : List (List AV)) (z2 : Int) (a2 : Int) (e2 : Int) (c2 : Int) : Y_rpA1 l z a e b lo m f z' a' e' b' b1 b2 { tmps := tm2 85 [(0, AV.ptr 0 0), (5, AV.slice 1 p2 Own.yes), (6, vI f)], lh := lm2 85 [], g := { H := [[AV.slice 4 m2 Own.no, vI z2, vI a2, vI e2, vI c2]], defers := [], rm := RM.none, base := 1 } } =
 (.branch (decide ((↑p2.length : Int) > 8))
 (.branch (e2 == 0)
 (.branch (decide (f < (↑m2.length : Int)))
 (.exI fun i =>
 (.exS fun s =>
 (.exI fun i1 =>
 (.exI fun i2 =>
 (.row (m2) (f) [(vI (i)), (vS (s)), (vI (i1)), (vI (i2))]
 (.need true
 (.need true
 (.need true
 (.ret ⟨(.ret (.slice 1 [] .no)), .none, [[(.slice 4 (m2) .no), (vI (z2)), (vI (f)), (vI (3)), (vI (i2))]]⟩)))))))))
 (.need true
 (.need true
 (.need true
 (.ret ⟨(.ret (.slice 1 [] .no)), .none, [[(.slice 4 (m2) .no), (vI (z2)), (vI (f)), (vI (3)), (vI (z2))]]⟩)))))
 (.need true
 (.need true
 (.ret ⟨(.ret (.slice 1 [] .no)), .none, [[(.slice 4 (m2) .no), (vI (z2)), (vI (f)), (vI (e2)), (vI (c2))]]⟩))))
 (.need true
 (.ret ⟨(.ret (.slice 1 (p2) .no)), .none, [[(.slice 4 (m2) .no), (vI (z2)), (vI (a2)), (vI (e2)), (vI (c2))]]⟩))) := by kernel_rfl
theorem X_rpA2n_eq (l : List (List AV)) (z : Int) (a : Int) (e : Int) (b : Int) (lo : Bool) (m : List (List AV)) (f : Int) (z' : Int) (a' : Int) (e' : Int) (b' : Int) (b1 : Bool) (m2 : List (List AV)) (z2 : Int) (a2 : Int) (e2 : Int) (c2 : Int) : Y_rpA2 l z a e b lo m f z' a' e' b' b1 { tmps := tm2 85 [(0, AV.ptr 0 0), (5, AV.slice 0 [] Own.full), (6, vI f)], lh := lm2 85 [], g := { H := [[AV.slice 4 m2 Own.no, vI z2, vI a2, vI e2, vI c2]], defers := [], rm := RM.none, base := 1 } } =
 (.branch (decide ((↑([] : List (List AV)).length : Int) > 8))
 (.branch (e2 == 0)
 (.branch (decide (f < (↑m2.length : Int)))
 (.exI fun i =>
 (.exS fun s =>
 (.exI fun i1 =>
 (.exI fun i2 =>
 (.row (m2) (f) [(vI (i)), (vS (s)), (vI (i1)), (vI (i2))]
 (.need true
 (.need true
 (.need true
 (.ret ⟨(.ret (.slice 1 [] .no)), .none, [[(.slice 4 (m2) .no), (vI (z2)), (vI (f)), (vI (3)), (vI (i2))]]⟩)))))))))
 (.need true
 (.need true
 (.need true
 (.ret ⟨(.ret (.slice 1 [] .no)), .none, [[(.slice 4 (m2) .no), (vI (z2)), (vI (f)), (vI (3)), (vI (z2))]]⟩)))))
 (.need true
 (.need true
 (.ret ⟨(.ret (.slice 1 [] .no)), .none, [[(.slice 4 (m2) .no), (vI (z2)), (vI (f)), (vI (e2)), (vI (c2))]]⟩))))
 (.need true
 (.ret ⟨(.ret (.slice 1 [] .no)), .none, [[(.slice 4 (m2) .no), (vI (z2)), (vI (a2)), (vI (e2)), (vI (c2))]]⟩))) := by kernel_rfl
theorem X_rpA2y_eq (l : List (List AV)) (z : Int) (a : Int) (e : Int) (b : Int) (lo : Bool) (m : List (List AV)) (f : Int) (z' : Int) (a' : Int) (e' : Int) (b' : Int) (b1 : Bool) (p2 : List (List AV)) (m2 : List (List AV)) (z2 : Int) (a2 : Int) (e2 : Int) (c2 : Int) : Y_rpA2 l z a e b lo m f z' a' e' b' b1 { tmps := tm2 85 [(0, AV.ptr 0 0), (5, AV.slice 1 p2 Own.yes), (6, vI f)], lh := lm2 85 [], g := { H := [[AV.slice 4 m2 Own.no, vI z2, vI a2, vI e2, vI c2]], defers := [], rm := RM.none, base := 1 } } =
 (.branch (decide ((↑p2.length : Int) > 8))
 (.branch (e2 == 0)
 (.branch (decide (f < (↑m2.length : Int)))
 (.exI fun i =>
 (.exS fun s =>
 (.exI fun i1 =>
 (.exI fun i2 =>
 (.row (m2) (f) [(vI (i)), (vS (s)), (vI (i1)), (vI (i2))]
 (.need true
 (.need true
 (.need true
 (.ret ⟨(.ret (.slice 1 [] .no)), .none, [[(.slice 4 (m2) .no), (vI (z2)), (vI (f)), (vI (3)), (vI (i2))]]⟩)))))))))
 (.need true
 (.need true
 (.need true
 (.ret ⟨(.ret (.slice 1 [] .no)), .none, [[(.slice 4 (m2) .no), (vI (z2)), (vI (f)), (vI (3)), (vI (z2))]]⟩)))))
 (.need true
 (.need true
 (.ret ⟨(.ret (.slice 1 [] .no)), .none, [[(.slice 4 (m2) .no), (vI (z2)), (vI (f)), (vI (e2)), (vI (c2))]]⟩))))
 (.need true
 (.ret ⟨(.ret (.slice 1 (p2) .no)), .none, [[(.slice 4 (m2) .no), (vI (z2)), (vI (a2)), (vI (e2)), (vI (c2))]]⟩))) := by kernel_rfl
theorem X_rpB1y_eq (l : List (List AV)) (z : Int) (a : Int) (e : Int) (b : Int) (lo : Bool) (p : List (List AV)) (m : List (List AV)) (f : Int) (z' : Int) (a' : Int) (e' : Int) (b' : Int) (b1 : Bool) (b2 : Bool) (p2 : List (List AV)) (m2 : List (List AV)) (z2 : Int) (a2 : Int) (e2 : Int) (c2 : Int) : Y_rpB1 l z a e b lo p m f z' a' e' b' b1 b2 { tmps := tm2 85 [(0, AV.ptr 0 0), (5, AV.slice 1 p2 Own.yes), (6, vI f)], lh := lm2 85 [], g := { H := [[AV.slice 4 m2 Own.no, vI z2, vI a2, vI e2, vI c2]], defers := [], rm := RM.none, base := 1 } } =
 (.branch (decide ((↑p2.length : Int) > 8))
 (.branch (e2 == 0)
 (.branch (decide (f < (↑m2.length : Int)))
 (.exI fun i =>
 (.exS fun s =>
 (.exI fun i1 =>
 (.exI fun i2 =>
 (.row (m2) (f) [(vI (i)), (vS (s)), (vI (i1)), (vI (i2))]
 (.need true
 (.need true
 (.need true
 (.ret ⟨(.ret (.slice 1 [] .no)), .none, [[(.slice 4 (m2) .no), (vI (z2)), (vI (f)), (vI (3)), (vI (i2))]]⟩)))))))))
 (.need true
 (.need true
 (.need true
 (.ret ⟨(.ret (.slice 1 [] .no)), .none, [[(.slice 4 (m2) .no), (vI (z2)), (vI (f)), (vI (3)), (vI (z2))]]⟩)))))
 (.need true
 (.need true
 (.ret ⟨(.ret (.slice 1 [] .no)), .none, [[(.slice 4 (m2) .no), (vI (z2)), (vI (f)), (vI (e2)), (vI (c2))]]⟩))))
 (.need true
 (.ret ⟨(.ret (.slice 1 (p2) .no)), .none, [[(.slice 4 (m2) .no), (vI (z2)), (vI (a2)), (vI (e2)), (vI (c2))]]⟩))) := by kernel_rfl
theorem X_rpB2y_eq (l : List (List AV)) (z : Int) (a : Int) (e : Int) (b : Int) (lo : Bool) (p : List (List AV)) (m : List (List AV)) (f : Int) (z' : Int) (a' : Int) (e' : Int) (b' : Int) (b1 : Bool) (p2 : List (List AV)) (m2 : List (List AV)) (z2 : Int) (a2 : Int) (e2 : Int) (c2 : Int) : Y_rpB2 l z a e b lo p m f z' a' e' b' b1 { tmps := tm2 85 [(0, AV.ptr 0 0), (5, AV.slice 1 p2 Own.yes), (6, vI f)], lh := lm2 85 [], g := { H := [[AV.slice 4 m2 Own.no, vI z2, vI a2, vI e2, vI c2]], defers := [], rm := RM.none, base := 1 } } =
 (.branch (decide ((↑p2.length : Int) > 8))
 (.branch (e2 == 0)
 (.branch (decide (f < (↑m2.length : Int)))
 (.exI fun i =>
 (.exS fun s =>
 (.exI fun i1 =>
 (.exI fun i2 =>
 (.row (m2) (f) [(vI (i)), (vS (s)), (vI (i1)), (vI (i2))]
 (.need true
 (.need true
 (.need true
 (.ret ⟨(.ret (.slice 1 [] .no)), .none, [[(.slice 4 (m2) .no), (vI (z2)), (vI (f)), (vI (3)), (vI (i2))]]⟩)))))))))
 (.need true
 (.need true
 (.need true
 (.ret ⟨(.ret (.slice 1 [] .no)), .none, [[(.slice 4 (m2) .no), (vI (z2)), (vI (f)), (vI (3)), (vI (z2))]]⟩)))))
 (.need true
 (.need true
 (.ret ⟨(.ret (.slice 1 [] .no)), .none, [[(.slice 4 (m2) .no), (vI (z2)), (vI (f)), (vI (e2)), (vI (c2))]]⟩))))
 (.need true
 (.ret ⟨(.ret (.slice 1 (p2) .no)), .none, [[(.slice 4 (m2) .no), (vI (z2)), (vI (a2)), (vI (e2)), (vI (c2))]]⟩))) := by kernel_rfl
end Go.Proofs
end

section
/- PARSE: the document's reader: path, Path -/
set_option linter.unusedVariables false
set_option linter.unusedSimpArgs false
set_option maxRecDepth 100000
open Go Go.Eng Go.Pa
open Go.Lx (T Tok)
namespace Go.Proofs
abbrev pthV (x : List T × Bool) : AV := strsV x.1
theorem wrap2 {k : Nat} (h : k < BIG) : IntKind.i64.wrap ((k : Int) + 2) = ((k + 2 : Nat) : Int) := by
  rw [IntKind.wrap_i64]; unfold BIG at h; omega
theorem wrapUD {k : Nat} (h : k < BIG) : IntKind.i64.wrap (IntKind.i64.wrap ((k : Int) + 1) - 1) = (k : Int) := by rw [wrapU h, wrapD h]
section
variable {QD : List (St → Prop)} {L : List Tok} {z k0 : Nat}
/-- The end: a path that is too great is an error at its beginning. -/
theorem rp_fin {p' : List T} {P : List (List AV)} {F : Res (List T × Bool)} {k e c : Nat} (hP : P = pRows p') (hk0 : k0 ≤ L.length)
    (h1 : p'.length ≤ 8 → e = 0 → k ≤ L.length ∧ ∃ b, F = .ok (p', b) (L.drop k)) (h2 : p'.length ≤ 8 → e ≠ 0 → F = .no e c) (h3 : 8 < p'.length → e = 0 ∧ F = .no 3 (pl z (L.drop k0))) :
    (KT.branch (decide ((P.length : Int) > 8))
      (.branch ((e : Int) == 0)
        (.branch (decide ((k0 : Int) < ((tks L).length : Int)))
          (.exI fun i => .exS fun s => .exI fun i1 => .exI fun i2 => .row (tks L) k0 [vI i, vS s, vI i1, vI i2]
            (.need true (.need true (.need true (.ret ⟨.ret (.slice 1 [] .no), .none, [hp5 (tks L) z k0 3 i2]⟩)))))
          (.need true (.need true (.need true (.ret ⟨.ret (.slice 1 [] .no), .none, [hp5 (tks L) z k0 3 z]⟩)))))
        (.need true (.need true (.ret ⟨.ret (.slice 1 [] .no), .none, [hp5 (tks L) z k0 e c]⟩))))
      (.need true (.ret ⟨.ret (.slice 1 P .no), .none, [hp5 (tks L) z k e c]⟩))).wp Pg cfg0 evp QD (Qq pthV shStrs F L z) ∨ (e = 0 ∧ c ≠ 0) := by
  by_cases hc : e = 0 ∧ c ≠ 0
  · exact .inr hc
  left
  subst hP
  refine wp_if2 (fun h => ?_) (fun h => ⟨rfl, ?_⟩)
  · have h := of_decide_eq_true h
    simp only [List.length_map] at h
    obtain ⟨he, hF⟩ := h3 (by omega)
    refine wp_if2 (fun _ => ?_) (fun h => by rw [he] at h; exact absurd h (by decide))
    cases hD : L.drop k0 with
    | nil =>
      rw [hD] at hF
      exact wp_if2 (lt_len hD) (fun _ => ⟨rfl, rfl, rfl, qq_no (k := k0) (e := 3) hF (by decide) ⟨_, rfl⟩⟩)
    | cons t r =>
      rw [hD] at hF
      exact wp_if2 (fun _ => ⟨_, _, _, _, rowk (dropc hD).2.1, rfl, rfl, rfl, qq_no (k := k0) (e := 3) hF (by decide) ⟨_, rfl⟩⟩) (not_lt hD)
  · have h := of_decide_eq_false h
    simp only [List.length_map] at h
    by_cases he : e = 0
    · have hc0 : c = 0 := Decidable.not_not.1 fun hn => hc ⟨he, hn⟩
      subst he hc0
      obtain ⟨hk, b, hF⟩ := h1 (by omega) rfl
      exact qq_ok (k := k) hF rfl hk rfl
    · exact qq_no (h2 (by omega) he) he ⟨_, rfl⟩
/-- The last name of a path. -/
theorem rp_tail {lo : Bool} {k : Nat} {ND : ByteArray → Bool} {LEN : Bool} {Sy : ByteArray → Int → St} {Sn : Int → Int → Int → St} {Q : St → Prop} (hL : L.length < BIG) (hk : k ≤ L.length)
    (h1 : ∀ t r, L.drop k = t :: r → (t.kind == 1 && lo || t.kind == 2) = true → ND ⟨t.text.toArray⟩ = true ∧ Q (Sy ⟨t.text.toArray⟩ (k + 1 : Nat)))
    (h2 : (∀ t r, L.drop k = t :: r → (t.kind == 1 && lo || t.kind == 2) = false) → LEN = true → Q (Sn k 11 (pl z (L.drop k))))
    (h3 : (∀ t r, L.drop k = t :: r → (t.kind == 1 && lo || t.kind == 2) = false) → LEN = false → Q (Sn k 0 0)) {QR : CRes → Prop} :
    (KT.branch lo
      (.exB fun b3 => .call f_waferref05_Reader_kind [.ptr 0 0, vI 1] .none (qH L z k 0 0) ⟨.ret (vB b3), .none, qH L z k 0 0⟩
        (.branch b3
          (.exI fun i => .exS fun s => .exI fun i1 => .exI fun i2 => .row (tks L) (IntKind.i64.wrap (IntKind.i64.wrap ((k : Int) + 1) - 1)) [vI i, vS s, vI i1, vI i2] (.need (ND s) (.done (Sy s (IntKind.i64.wrap ((k : Int) + 1))))))
          (.exB fun b4 => .call f_waferref05_Reader_kind [.ptr 0 0, vI 2] .none (qH L z k 0 0) ⟨.ret (vB b4), .none, qH L z k 0 0⟩
            (.branch b4
              (.exI fun i => .exS fun s => .exI fun i1 => .exI fun i2 => .row (tks L) (IntKind.i64.wrap (IntKind.i64.wrap ((k : Int) + 1) - 1)) [vI i, vS s, vI i1, vI i2] (.need (ND s) (.done (Sy s (IntKind.i64.wrap ((k : Int) + 1))))))
              (.branch LEN
                (.branch ((0 : Int) == 0)
                  (.branch (decide ((k : Int) < ((tks L).length : Int)))
                    (.exI fun i => .exS fun s => .exI fun i1 => .exI fun i2 => .row (tks L) k [vI i, vS s, vI i1, vI i2] (.need true (.need true (.done (Sn k 11 i2)))))
                    (.need true (.need true (.done (Sn k 11 z)))))
                  (.need true (.done (Sn k 0 0))))
                (.done (Sn k 0 0)))))))
      (.exB fun b4 => .call f_waferref05_Reader_kind [.ptr 0 0, vI 2] .none (qH L z k 0 0) ⟨.ret (vB b4), .none, qH L z k 0 0⟩
            (.branch b4
              (.exI fun i => .exS fun s => .exI fun i1 => .exI fun i2 => .row (tks L) (IntKind.i64.wrap (IntKind.i64.wrap ((k : Int) + 1) - 1)) [vI i, vS s, vI i1, vI i2] (.need (ND s) (.done (Sy s (IntKind.i64.wrap ((k : Int) + 1))))))
              (.branch LEN
                (.branch ((0 : Int) == 0)
                  (.branch (decide ((k : Int) < ((tks L).length : Int)))
                    (.exI fun i => .exS fun s => .exI fun i1 => .exI fun i2 => .row (tks L) k [vI i, vS s, vI i1, vI i2] (.need true (.need true (.done (Sn k 11 i2)))))
                    (.need true (.need true (.done (Sn k 11 z)))))
                  (.need true (.done (Sn k 0 0))))
                (.done (Sn k 0 0)))))).wp Pg cfg0 evp (Q :: QD) QR := by
  have hno : (∀ t r, L.drop k = t :: r → (t.kind == 1 && lo || t.kind == 2) = false) → (KT.branch LEN
                (.branch ((0 : Int) == 0)
                  (.branch (decide ((k : Int) < ((tks L).length : Int)))
                    (.exI fun i => .exS fun s => .exI fun i1 => .exI fun i2 => .row (tks L) k [vI i, vS s, vI i1, vI i2] (.need true (.need true (.done (Sn k 11 i2)))))
                    (.need true (.need true (.done (Sn k 11 z)))))
                  (.need true (.done (Sn k 0 0))))
                (.done (Sn k 0 0))).wp Pg cfg0 evp (Q :: QD) QR := by
    intro hn
    refine wp_if2 (fun hl => wp_if2 (fun _ => ?_) (fun h => absurd h (by decide))) (fun hl => h3 hn hl)
    have h2' := h2 hn hl
    cases hD : L.drop k with
    | nil =>
      rw [hD] at h2'
      exact wp_if2 (lt_len hD) (fun _ => ⟨rfl, rfl, wp_done h2'⟩)
    | cons t r =>
      rw [hD] at h2'
      exact wp_if2 (fun _ => ⟨_, _, _, _, rowk (dropc hD).2.1, rfl, rfl, wp_done h2'⟩) (not_lt hD)
  have hyes : ∀ t r, L.drop k = t :: r → (t.kind == 1 && lo || t.kind == 2) = true → (KT.exI fun i => .exS fun s => .exI fun i1 => .exI fun i2 => .row (tks L) (IntKind.i64.wrap (IntKind.i64.wrap ((k : Int) + 1) - 1)) [vI i, vS s, vI i1, vI i2] (.need (ND s) (.done (Sy s (IntKind.i64.wrap ((k : Int) + 1)))))).wp Pg cfg0 evp (Q :: QD) QR := by
    intro t r hD hc
    obtain ⟨d1, d2, d3⟩ := dropc hD
    obtain ⟨q1, q2⟩ := h1 t r hD hc
    rw [wrapUD (by omega), wrapU (by omega)]
    exact ⟨_, _, _, _, rowk d2, q1, wp_done q2⟩
  have hsec : (∀ t r, L.drop k = t :: r → (t.kind == 1 && lo) = false) → (KT.exB fun b4 => .call f_waferref05_Reader_kind [.ptr 0 0, vI 2] .none (qH L z k 0 0) ⟨.ret (vB b4), .none, qH L z k 0 0⟩
            (.branch b4
              (.exI fun i => .exS fun s => .exI fun i1 => .exI fun i2 => .row (tks L) (IntKind.i64.wrap (IntKind.i64.wrap ((k : Int) + 1) - 1)) [vI i, vS s, vI i1, vI i2] (.need (ND s) (.done (Sy s (IntKind.i64.wrap ((k : Int) + 1))))))
              (.branch LEN
                (.branch ((0 : Int) == 0)
                  (.branch (decide ((k : Int) < ((tks L).length : Int)))
                    (.exI fun i => .exS fun s => .exI fun i1 => .exI fun i2 => .row (tks L) k [vI i, vS s, vI i1, vI i2] (.need true (.need true (.done (Sn k 11 i2)))))
                    (.need true (.need true (.done (Sn k 11 z)))))
                  (.need true (.done (Sn k 0 0))))
                (.done (Sn k 0 0))))).wp Pg cfg0 evp (Q :: QD) QR := by
    intro hn
    refine ⟨_, c_rkind L z k 2, wp_if2 (fun h => ?_) (fun h => hno fun t r hD => ?_)⟩
    · cases hD : L.drop k with
      | nil => rw [hD] at h; cases h
      | cons t r =>
        rw [hD] at h
        have h : (t.kind == 2) = true := h
        exact hyes t r hD (by rw [h]; simp)
    · rw [hD] at h
      have h : (t.kind == 2) = false := h
      rw [hn t r hD, h]; rfl
  refine wp_if2 (fun hlo => ⟨_, c_rkind L z k 1, wp_if2 (fun h => ?_) (fun h => hsec fun t r hD => ?_)⟩) (fun hlo => hsec fun t r hD => by rw [hlo]; simp)
  · cases hD : L.drop k with
    | nil => rw [hD] at h; cases h
    | cons t r =>
      rw [hD] at h
      have h : (t.kind == 1) = true := h
      exact hyes t r hD (by rw [h, hlo]; rfl)
  · rw [hD] at h
    have h : (t.kind == 1) = false := h
    rw [h]; rfl
end
theorem dot_w {u : Tok} (h : gtok u) : isW wDot [u] = (u.kind == 6 && decide (u.text = wDot)) := by
  by_cases h3 : u.kind = 3
  · obtain ⟨c, r, e, hc⟩ := h.2.2.2 h3
    have : ¬ u.text = wDot := by
      rw [e]
      intro h'
      injection h' with h1 h2
      subst h1; exact absurd hc (by decide)
    simp [isW, this]
  · have : (u.kind == 3) = false := by simpa using h3
    simp [isW, this]
theorem c_rpath {L : List Tok} {z k0 : Nat} {lo : Bool} (hg : Gd L) (hL : L.length ≤ 100000) (hk0 : k0 ≤ L.length) :
    QC pthV shStrs (path z lo true (pl z (L.drop k0)) [] (L.drop k0)) L z f_waferref05_Reader_path [.ptr 0 0, vB lo] (qH L z k0 0 0) := by
  have hLB : L.length < BIG := by unfold BIG; omega
  refine qc_of (wp_eq2 (X_rpath_eq ..) ?_)
  have hY : X_rpath (tks L) z k0 (0 : Nat) (0 : Nat) lo = Y_rpath (tks L) z k0 0 0 lo := by delta X_rpath Y_rpath; rfl
  generalize hFF : path z lo true (pl z (L.drop k0)) [] (L.drop k0) = F
  refine wp_eq2 hY (loop5 (fun x : List T × Nat => ⟨tm2 85 [(0, (.ptr 0 0)), (1, (vB (lo))), (5, pY x.1), (6, (vI (k0)))], lm2 85 [], ⟨[hp5 (tks L) z x.2 0 0], [], .none, 1⟩⟩)
    (fun x => x.2 ≤ L.length ∧ x.1.length ≤ x.2 ∧ (x.1.length ≤ 8 → F = path z lo true (pl z (L.drop k0)) x.1 (L.drop x.2)) ∧ (8 < x.1.length → F = .no 3 (pl z (L.drop k0)))) (fun x => L.length - x.2) ([], k0) (by kernel_rfl) ⟨hk0, Nat.zero_le _, fun _ => hFF.symm, fun h => by simp at h⟩ ?_)
  rintro ⟨p, k⟩ ⟨hk, hpk, hF, hF3⟩
  simp only at hk hpk hF hF3
  -- the last name
  have fin1 : ∀ t r, L.drop k = t :: r → (t.kind == 1 && lo || t.kind == 2) = true → (t.kind == 2 → dotB (L.drop k) = false) →
      ((p ++ [t.text]).length ≤ 8 → ∃ b, F = .ok (p ++ [t.text], b) (L.drop (k + 1))) ∧ (8 < (p ++ [t.text]).length → F = .no 3 (pl z (L.drop k0))) := by
    intro t r hD hc hd
    obtain ⟨d1, d2, d3⟩ := dropc hD
    have hc2 : (t.kind == 2 || (t.kind == 1 && lo)) = true := by rw [Bool.or_comm]; exact hc
    refine ⟨fun h8 => ?_, fun h8 => ?_⟩
    · simp at h8
      have hF := hF (by omega)
      rw [hD, path_cons, if_pos hc2, if_neg (by omega)] at hF
      by_cases h1 : (t.kind == 1) = true
      · rw [if_pos h1] at hF
        exact ⟨true, by rw [hF, d3]⟩
      · rw [if_neg h1] at hF
        have h2 : (t.kind == 2) = true := by
          have : (t.kind == 1) = false := by simpa using h1
          rw [this] at hc; simpa using hc
        have hd := hd h2
        rw [hD] at hd
        refine ⟨false, ?_⟩
        rw [hF, d3]
        cases r with
        | nil => rfl
        | cons u r' =>
          have hgu : gtok u := hg u (by
            have : u ∈ L.drop (k + 1) := by rw [d3]; simp
            exact List.mem_of_mem_drop this)
          have hw : isW wDot [u] = false := by rw [dot_w hgu]; exact hd
          simp only [hw, Bool.false_eq_true, if_false, if_true]
    · simp at h8
      by_cases h9 : p.length ≤ 8
      · have hF := hF h9
        rw [hD, path_cons, if_pos hc2, if_pos (by omega)] at hF
        exact hF
      · exact hF3 (by omega)
  have fin2 : (∀ t r, L.drop k = t :: r → (t.kind == 1 && lo || t.kind == 2) = false) → p.length ≤ 8 → F = .no 11 (pl z (L.drop k)) := by
    intro hn h8
    rw [hF h8]
    cases hD : L.drop k with
    | nil => rw [path_nil]; rfl
    | cons t r =>
      rw [path_cons, if_neg (by rw [Bool.or_comm, hn t r hD]; decide)]; rfl
  -- one name more
  have go2 : ∀ t r, L.drop k = t :: r → (t.kind == 2) = true → dotB (L.drop k) = true → k + 2 ≤ L.length ∧ (p ++ [t.text]).length ≤ k + 2 ∧ ((p ++ [t.text]).length ≤ 8 → F = path z lo true (pl z (L.drop k0)) (p ++ [t.text]) (L.drop (k + 2))) ∧ (8 < (p ++ [t.text]).length → F = .no 3 (pl z (L.drop k0))) := by
    intro t r hD h2 hd
    obtain ⟨d1, d2, d3⟩ := dropc hD
    cases r with
    | nil => rw [hD] at hd; cases hd
    | cons u r' =>
      obtain ⟨e1, e2, e3⟩ := dropc d3
      have hgu : gtok u := hg u (by
        have : u ∈ L.drop (k + 1) := by rw [d3]; simp
        exact List.mem_of_mem_drop this)
      have hw : isW wDot [u] = true := by rw [dot_w hgu]; rw [hD] at hd; exact hd
      have h1 : (t.kind == 1) = false := by
        have : t.kind = 2 := by simpa using h2
        simp [this]
      refine ⟨e1, by simp; omega, fun h8 => ?_, fun h8 => ?_⟩
      · simp at h8
        have hF := hF (by omega)
        rw [hD, path_cons, if_pos (by rw [h2]; rfl), if_neg (by omega), if_neg (by rw [h1]; decide)] at hF
        simp only [hw, if_true] at hF
        rw [hF, e3]
      · simp at h8
        by_cases h9 : p.length ≤ 8
        · have hF := hF h9
          rw [hD, path_cons, if_pos (by rw [h2]; rfl), if_pos (by omega)] at hF
          exact hF
        · exact hF3 (by omega)
  have dotno : ∀ b, ofK 2 (L.drop k) = b → b = false → ∀ t r, L.drop k = t :: r → (t.kind == 2 → dotB (L.drop k) = false) := by
    intro b hb hb2 t r hD h2
    rw [hb2, hD] at hb
    have hb : (t.kind == 2) = false := hb
    rw [hb] at h2; cases h2
  cases p with
  | nil =>
    -- nothing is there yet
    have tailA : ∀ {K : St → KT} {QD : List (St → Prop)}, (∀ t r, L.drop k = t :: r → (t.kind == 2 → dotB (L.drop k) = false)) →
        (∀ (p2 : List (List AV)) (a2 e2 c2 : Int), (KT.branch (decide ((p2.length : Int) > 8)) (.branch (e2 == 0)
            (.branch (decide ((k0 : Int) < ((tks L).length : Int)))
              (.exI fun i => .exS fun s => .exI fun i1 => .exI fun i2 => .row (tks L) k0 [vI i, vS s, vI i1, vI i2] (.need true (.need true (.need true (.ret ⟨.ret (.slice 1 [] .no), .none, [hp5 (tks L) z k0 3 i2]⟩)))))
              (.need true (.need true (.need true (.ret ⟨.ret (.slice 1 [] .no), .none, [hp5 (tks L) z k0 3 z]⟩)))))
            (.need true (.need true (.ret ⟨.ret (.slice 1 [] .no), .none, [hp5 (tks L) z k0 e2 c2]⟩))))
          (.need true (.ret ⟨.ret (.slice 1 p2 .no), .none, [hp5 (tks L) z a2 e2 c2]⟩))).wp Pg cfg0 evp QD (Qq pthV shStrs F L z) → (p2 ≠ [] → (K ⟨tm2 85 [(0, (.ptr 0 0)), (5, (.slice 1 p2 .yes)), (6, (vI (k0)))], lm2 85 [], ⟨[hp5 (tks L) z a2 e2 c2], [], .none, 1⟩⟩).wp Pg cfg0 evp QD (Qq pthV shStrs F L z)) ∧ (p2 = [] → (K ⟨tm2 85 [(0, (.ptr 0 0)), (5, (.slice 0 [] .full)), (6, (vI (k0)))], lm2 85 [], ⟨[hp5 (tks L) z a2 e2 c2], [], .none, 1⟩⟩).wp Pg cfg0 evp QD (Qq pthV shStrs F L z))) →
        (∀ t r, L.drop k = t :: r → (t.kind == 1 && lo || t.kind == 2) = true → true = true ∧ (fun s => (K s).wp Pg cfg0 evp QD (Qq pthV shStrs F L z)) ⟨tm2 85 [(0, (.ptr 0 0)), (5, (.slice 1 [[vS ⟨t.text.toArray⟩]] .yes)), (6, (vI (k0)))], lm2 85 [], ⟨[hp5 (tks L) z (k + 1 : Nat) 0 0], [], .none, 1⟩⟩) ∧
        ((∀ t r, L.drop k = t :: r → (t.kind == 1 && lo || t.kind == 2) = false) → (K ⟨tm2 85 [(0, (.ptr 0 0)), (5, (.slice 0 [] .full)), (6, (vI (k0)))], lm2 85 [], ⟨[hp5 (tks L) z k 11 (pl z (L.drop k))], [], .none, 1⟩⟩).wp Pg cfg0 evp QD (Qq pthV shStrs F L z)) := by
      intro K QD hd hK
      refine ⟨fun t r hD hc => ⟨rfl, ?_⟩, fun hn => ?_⟩
      · obtain ⟨f1, f2⟩ := fin1 t r hD hc (hd t r hD)
        obtain ⟨d1, d2, d3⟩ := dropc hD
        refine (hK [[vS ⟨t.text.toArray⟩]] (k + 1 : Nat) 0 0 ?_).1 (by simp)
        exact (rp_fin (p' := [t.text]) (e := 0) (c := 0) rfl hk0 (fun h _ => ⟨d1, f1 h⟩) (fun _ h => absurd rfl h) (fun h => ⟨rfl, f2 h⟩)).resolve_right (fun h => h.2 rfl)
      · have f := fin2 hn (Nat.zero_le _)
        refine (hK [] k 11 (pl z (L.drop k)) ?_).2 rfl
        exact (rp_fin (p' := []) (e := 11) (c := pl z (L.drop k)) rfl hk0 (fun _ h => by omega) (fun _ _ => f) (fun h => by simp at h)).resolve_right (fun h => by omega)
    refine wp_eq2 (X_rpathA_eq ..) ⟨_, c_rkind L z k 2, wp_if2 (fun h2 => ?_) (fun h2 => wp_out (wp_stage ?_))⟩
    · have hk1 : k < L.length := by
        cases hD : L.drop k with
        | nil => rw [hD] at h2; cases h2
        | cons t r => exact (dropc hD).1
      refine ⟨_, c_rdotted 0 0 hLB hk1, wp_if2 (fun hd => ?_) (fun hd => wp_out (wp_stage ?_))⟩
      · cases hD : L.drop k with
        | nil => rw [hD] at h2; cases h2
        | cons t r =>
          obtain ⟨d1, d2, d3⟩ := dropc hD
          rw [hD] at h2
          obtain ⟨g1, g2, g3, g4⟩ := go2 t r hD h2 hd
          refine ⟨_, _, _, _, rowk d2, rfl, wp_done ⟨([t.text], k + 2), ⟨⟨g1, g2, g3, g4⟩, by simp only; omega⟩, ?_⟩⟩
          rw [wrap2 (by omega)]; rfl
      · have hY1 : ∀ s, ((((X_rpathA (tks L) z k0 0 0 lo (tks L) k0 z k 0 0).B true).T.T.B false).T.F.T.K s) = Y_rpA1 (tks L) z k0 0 0 lo (tks L) k0 z k 0 0 true false s := by delta Y_rpA1 X_rpathA; intro s; rfl
        have hnd : ∀ t r, L.drop k = t :: r → (t.kind == 2 → dotB (L.drop k) = false) := fun _ _ _ _ => hd
        rw [h2, hd]
        obtain ⟨t1, t2⟩ := tailA (QD := []) (K := fun s => (((X_rpathA (tks L) z k0 0 0 lo (tks L) k0 z k 0 0).B true).T.T.B false).T.F.T.K s) hnd (fun p2 a2 e2 c2 hw => ⟨fun _ => wp_eq2 (hY1 _) (wp_eq2 (X_rpA1y_eq ..) hw), fun e => by subst e; exact wp_eq2 (hY1 _) (wp_eq2 (X_rpA1n_eq ..) hw)⟩)
        refine rp_tail (ND := fun _ => true) (LEN := decide (((([] : List (List AV)).length : Nat) : Int) ≤ 8)) (Sy := fun s a => ⟨tm2 85 [(0, (.ptr 0 0)), (5, (.slice 1 [[vS s]] .yes)), (6, (vI (k0)))], lm2 85 [], ⟨[hp5 (tks L) z a 0 0], [], .none, 1⟩⟩) (Sn := fun a e c => ⟨tm2 85 [(0, (.ptr 0 0)), (5, (.slice 0 [] .full)), (6, (vI (k0)))], lm2 85 [], ⟨[hp5 (tks L) z a e c], [], .none, 1⟩⟩) hLB hk ?_ ?_ ?_
        · exact t1
        · exact fun hn _ => t2 hn
        · exact fun _ h => absurd h (by decide)
    · have hY1 : ∀ s, ((((X_rpathA (tks L) z k0 0 0 lo (tks L) k0 z k 0 0).B false).T.F.T.K s)) = Y_rpA2 (tks L) z k0 0 0 lo (tks L) k0 z k 0 0 false s := by delta Y_rpA2 X_rpathA; intro s; rfl
      have hnd := dotno _ rfl h2
      rw [h2]
      obtain ⟨t1, t2⟩ := tailA (QD := []) (K := fun s => ((X_rpathA (tks L) z k0 0 0 lo (tks L) k0 z k 0 0).B false).T.F.T.K s) hnd (fun p2 a2 e2 c2 hw => ⟨fun _ => wp_eq2 (hY1 _) (wp_eq2 (X_rpA2y_eq ..) hw), fun e => by subst e; exact wp_eq2 (hY1 _) (wp_eq2 (X_rpA2n_eq ..) hw)⟩)
      refine rp_tail (ND := fun _ => true) (LEN := decide (((([] : List (List AV)).length : Nat) : Int) ≤ 8)) (Sy := fun s a => ⟨tm2 85 [(0, (.ptr 0 0)), (5, (.slice 1 [[vS s]] .yes)), (6, (vI (k0)))], lm2 85 [], ⟨[hp5 (tks L) z a 0 0], [], .none, 1⟩⟩) (Sn := fun a e c => ⟨tm2 85 [(0, (.ptr 0 0)), (5, (.slice 0 [] .full)), (6, (vI (k0)))], lm2 85 [], ⟨[hp5 (tks L) z a e c], [], .none, 1⟩⟩) hLB hk ?_ ?_ ?_
      · exact t1
      · exact fun hn _ => t2 hn
      · exact fun _ h => absurd h (by decide)
  | cons p0 p =>
    have tailB : ∀ {K : St → KT} {QD : List (St → Prop)}, (∀ t r, L.drop k = t :: r → (t.kind == 2 → dotB (L.drop k) = false)) →
        (∀ (p2 : List (List AV)) (a2 e2 c2 : Int), (KT.branch (decide ((p2.length : Int) > 8)) (.branch (e2 == 0)
            (.branch (decide ((k0 : Int) < ((tks L).length : Int)))
              (.exI fun i => .exS fun s => .exI fun i1 => .exI fun i2 => .row (tks L) k0 [vI i, vS s, vI i1, vI i2] (.need true (.need true (.need true (.ret ⟨.ret (.slice 1 [] .no), .none, [hp5 (tks L) z k0 3 i2]⟩)))))
              (.need true (.need true (.need true (.ret ⟨.ret (.slice 1 [] .no), .none, [hp5 (tks L) z k0 3 z]⟩)))))
            (.need true (.need true (.ret ⟨.ret (.slice 1 [] .no), .none, [hp5 (tks L) z k0 e2 c2]⟩))))
          (.need true (.ret ⟨.ret (.slice 1 p2 .no), .none, [hp5 (tks L) z a2 e2 c2]⟩))).wp Pg cfg0 evp QD (Qq pthV shStrs F L z) → (K ⟨tm2 85 [(0, (.ptr 0 0)), (5, (.slice 1 p2 .yes)), (6, (vI (k0)))], lm2 85 [], ⟨[hp5 (tks L) z a2 e2 c2], [], .none, 1⟩⟩).wp Pg cfg0 evp QD (Qq pthV shStrs F L z)) →
        (∀ t r, L.drop k = t :: r → (t.kind == 1 && lo || t.kind == 2) = true → Nat.ble ((pRows (p0 :: p)).length + 1) 2147483648 = true ∧ (K ⟨tm2 85 [(0, (.ptr 0 0)), (5, (.slice 1 (pRows (p0 :: p) ++ [[vS ⟨t.text.toArray⟩]]) .yes)), (6, (vI (k0)))], lm2 85 [], ⟨[hp5 (tks L) z (k + 1 : Nat) 0 0], [], .none, 1⟩⟩).wp Pg cfg0 evp QD (Qq pthV shStrs F L z)) ∧
        ((∀ t r, L.drop k = t :: r → (t.kind == 1 && lo || t.kind == 2) = false) → decide (((pRows (p0 :: p)).length : Int) ≤ 8) = true → (K ⟨tm2 85 [(0, (.ptr 0 0)), (5, (.slice 1 (pRows (p0 :: p)) .yes)), (6, (vI (k0)))], lm2 85 [], ⟨[hp5 (tks L) z k 11 (pl z (L.drop k))], [], .none, 1⟩⟩).wp Pg cfg0 evp QD (Qq pthV shStrs F L z)) ∧
        ((∀ t r, L.drop k = t :: r → (t.kind == 1 && lo || t.kind == 2) = false) → decide (((pRows (p0 :: p)).length : Int) ≤ 8) = false → (K ⟨tm2 85 [(0, (.ptr 0 0)), (5, (.slice 1 (pRows (p0 :: p)) .yes)), (6, (vI (k0)))], lm2 85 [], ⟨[hp5 (tks L) z k 0 0], [], .none, 1⟩⟩).wp Pg cfg0 evp QD (Qq pthV shStrs F L z)) := by
      intro K QD hd hK
      refine ⟨fun t r hD hc => ⟨by rw [Nat.ble_eq]; simp at hpk ⊢; omega, ?_⟩, fun hn h8 => ?_, fun hn h8 => ?_⟩
      · obtain ⟨f1, f2⟩ := fin1 t r hD hc (hd t r hD)
        obtain ⟨d1, d2, d3⟩ := dropc hD
        refine hK _ (k + 1 : Nat) 0 0 ?_
        exact (rp_fin (p' := (p0 :: p) ++ [t.text]) (e := 0) (c := 0) (by simp only [pRows, List.map_append]; rfl) hk0 (fun h _ => ⟨d1, f1 h⟩) (fun _ h => absurd rfl h) (fun h => ⟨rfl, f2 h⟩)).resolve_right (fun h => h.2 rfl)
      · have h8 := of_decide_eq_true h8
        simp only [List.length_map] at h8
        have f := fin2 hn (by omega)
        refine hK _ k 11 (pl z (L.drop k)) ?_
        exact (rp_fin (p' := p0 :: p) (e := 11) (c := pl z (L.drop k)) rfl hk0 (fun _ h => by omega) (fun _ _ => f) (fun h => by omega)).resolve_right (fun h => by omega)
      · have h8 := of_decide_eq_false h8
        simp only [List.length_map] at h8
        refine hK _ k 0 0 ?_
        exact (rp_fin (p' := p0 :: p) (e := 0) (c := 0) rfl hk0 (fun h _ => by omega) (fun _ h => absurd rfl h) (fun h => ⟨rfl, hF3 h⟩)).resolve_right (fun h => h.2 rfl)
    refine wp_eq2 (X_rpathB_eq (p := pRows (p0 :: p)) ..) ⟨_, c_rkind L z k 2, wp_if2 (fun h2 => ?_) (fun h2 => wp_out (wp_stage ?_))⟩
    · have hk1 : k < L.length := by
        cases hD : L.drop k with
        | nil => rw [hD] at h2; cases h2
        | cons t r => exact (dropc hD).1
      refine ⟨_, c_rdotted 0 0 hLB hk1, wp_if2 (fun hd => ?_) (fun hd => wp_out (wp_stage ?_))⟩
      · cases hD : L.drop k with
        | nil => rw [hD] at h2; cases h2
        | cons t r =>
          obtain ⟨d1, d2, d3⟩ := dropc hD
          rw [hD] at h2
          obtain ⟨g1, g2, g3, g4⟩ := go2 t r hD h2 hd
          refine ⟨_, _, _, _, rowk d2, by rw [Nat.ble_eq]; simp at hpk ⊢; omega, wp_done ⟨((p0 :: p) ++ [t.text], k + 2), ⟨⟨g1, g2, g3, g4⟩, by simp only; omega⟩, ?_⟩⟩
          rw [wrap2 (by omega)]
          simp only [pY, List.cons_append, pRows, List.map_cons, List.map_append]; rfl
      · have hY1 : ∀ s, ((((X_rpathB (tks L) z k0 0 0 lo (pRows (p0 :: p)) (tks L) k0 z k 0 0).B true).T.T.B false).T.F.T.K s) = Y_rpB1 (tks L) z k0 0 0 lo (pRows (p0 :: p)) (tks L) k0 z k 0 0 true false s := by delta Y_rpB1 X_rpathB; intro s; rfl
        have hnd : ∀ t r, L.drop k = t :: r → (t.kind == 2 → dotB (L.drop k) = false) := fun _ _ _ _ => hd
        rw [h2, hd]
        obtain ⟨t1, t2, t3⟩ := tailB (QD := []) (K := fun s => (((X_rpathB (tks L) z k0 0 0 lo (pRows (p0 :: p)) (tks L) k0 z k 0 0).B true).T.T.B false).T.F.T.K s) hnd (fun p2 a2 e2 c2 hw => wp_eq2 (hY1 _) (wp_eq2 (X_rpB1y_eq ..) hw))
        refine rp_tail (ND := fun _ => Nat.ble ((pRows (p0 :: p)).length + 1) 2147483648) (LEN := decide (((pRows (p0 :: p)).length : Int) ≤ 8)) (Sy := fun s a => ⟨tm2 85 [(0, (.ptr 0 0)), (5, (.slice 1 (pRows (p0 :: p) ++ [[vS s]]) .yes)), (6, (vI (k0)))], lm2 85 [], ⟨[hp5 (tks L) z a 0 0], [], .none, 1⟩⟩) (Sn := fun a e c => ⟨tm2 85 [(0, (.ptr 0 0)), (5, (.slice 1 (pRows (p0 :: p)) .yes)), (6, (vI (k0)))], lm2 85 [], ⟨[hp5 (tks L) z a e c], [], .none, 1⟩⟩) hLB hk ?_ ?_ ?_
        · exact t1
        · exact t2
        · exact t3
    · have hY1 : ∀ s, ((((X_rpathB (tks L) z k0 0 0 lo (pRows (p0 :: p)) (tks L) k0 z k 0 0).B false).T.F.T.K s)) = Y_rpB2 (tks L) z k0 0 0 lo (pRows (p0 :: p)) (tks L) k0 z k 0 0 false s := by delta Y_rpB2 X_rpathB; intro s; rfl
      have hnd := dotno _ rfl h2
      rw [h2]
      obtain ⟨t1, t2, t3⟩ := tailB (QD := []) (K := fun s => ((X_rpathB (tks L) z k0 0 0 lo (pRows (p0 :: p)) (tks L) k0 z k 0 0).B false).T.F.T.K s) hnd (fun p2 a2 e2 c2 hw => wp_eq2 (hY1 _) (wp_eq2 (X_rpB2y_eq ..) hw))
      refine rp_tail (ND := fun _ => Nat.ble ((pRows (p0 :: p)).length + 1) 2147483648) (LEN := decide (((pRows (p0 :: p)).length : Int) ≤ 8)) (Sy := fun s a => ⟨tm2 85 [(0, (.ptr 0 0)), (5, (.slice 1 (pRows (p0 :: p) ++ [[vS s]]) .yes)), (6, (vI (k0)))], lm2 85 [], ⟨[hp5 (tks L) z a 0 0], [], .none, 1⟩⟩) (Sn := fun a e c => ⟨tm2 85 [(0, (.ptr 0 0)), (5, (.slice 1 (pRows (p0 :: p)) .yes)), (6, (vI (k0)))], lm2 85 [], ⟨[hp5 (tks L) z a e c], [], .none, 1⟩⟩) hLB hk ?_ ?_ ?_
      · exact t1
      · exact t2
      · exact t3
end Go.Proofs
end

section
/- PARSE: the document's reader: Path; types -/
set_option linter.unusedVariables false
set_option linter.unusedSimpArgs false
set_option maxRecDepth 100000
open Go Go.Eng Go.Pa
open Go.Lx (T Tok)
namespace Go.Proofs
/-! ### plain facts of paths -/
theorem path_low {z s : Nat} : ∀ (k : Nat) {p : List T} {l : List Tok}, l.length ≤ k → path z true false s p l = (path z true true s p l).bind fun x r => if x.2 then .ok x r else .no 11 (pl z r) := by
  intro k
  induction k with
  | zero => intro p l hk; cases l with
    | nil => rw [path_nil, path_nil]; rfl
    | cons t l => simp at hk
  | succ k ih =>
    intro p l hk
    cases l with
    | nil => rw [path_nil, path_nil]; rfl
    | cons t l =>
      rw [path_cons, path_cons]
      split
      · split
        · rfl
        · split
          · rfl
          · cases l with
            | nil => rfl
            | cons d l' =>
              simp only
              split
              · exact ih (by simp at hk; omega)
              · rfl
      · rfl
theorem path_last {z s : Nat} {lo up : Bool} : ∀ (k : Nat) {p : List T} {l r : List Tok} {x : List T × Bool}, l.length ≤ k → path z lo up s p l = .ok x r → ∃ q t, x.1 = q ++ [t.text] ∧ t ∈ l ∧ t.kind = (if x.2 then 1 else 2) ∧ (x.2 = true → lo = true) := by
  intro k
  induction k with
  | zero => intro p l r x hk h; cases l with
    | nil => rw [path_nil] at h; cases h
    | cons t l => simp at hk
  | succ k ih =>
    intro p l r x hk h
    cases l with
    | nil => rw [path_nil] at h; cases h
    | cons t l =>
      rw [path_cons] at h
      split at h
      · rename_i hc
        split at h
        · cases h
        · split at h
          · rename_i h1
            injection h with e1 e2
            subst e1
            have hk1 : t.kind = 1 := by simpa using h1
            exact ⟨p, t, rfl, by simp, by simpa using hk1, fun _ => by simpa [hk1] using hc⟩
          · rename_i h1
            have hk2 : t.kind = 2 := by
              have : ¬ t.kind = 1 := by simpa using h1
              simp [this] at hc; exact hc
            cases l with
            | nil =>
              simp only at h
              split at h
              · injection h with e1 e2
                subst e1
                exact ⟨p, t, rfl, by simp, by simpa using hk2, fun h => by cases h⟩
              · cases h
            | cons d l' =>
              simp only at h
              split at h
              · obtain ⟨q, u, h2, h3, h4⟩ := ih (by simp at hk; omega) h
                exact ⟨q, u, h2, by simp [h3], h4⟩
              · split at h
                · injection h with e1 e2
                  subst e1
                  exact ⟨p, t, rfl, by simp, by simpa using hk2, fun h => by cases h⟩
                · cases h
      · cases h
theorem path_8 {z s : Nat} {lo up : Bool} {l r : List Tok} {x : List T × Bool} (h : path z lo up s [] l = .ok x r) : x.1.length ≤ 8 := by
  have key : ∀ (k : Nat) {p : List T} {l r : List Tok} {x : List T × Bool}, l.length ≤ k → path z lo up s p l = .ok x r → x.1.length ≤ 8 := by
    intro k
    induction k with
    | zero => intro p l r x hk h; cases l with
      | nil => rw [path_nil] at h; cases h
      | cons t l => simp at hk
    | succ k ih =>
      intro p l r x hk h
      cases l with
      | nil => rw [path_nil] at h; cases h
      | cons t l =>
        rw [path_cons] at h
        split at h
        · split at h
          · cases h
          · rename_i h8
            split at h
            · injection h with e1 e2
              subst e1; simp; omega
            · cases l with
              | nil =>
                simp only at h
                split at h
                · injection h with e1 e2
                  subst e1; simp; omega
                · cases h
              | cons d l' =>
                simp only at h
                split at h
                · exact ih (by simp at hk; omega) h
                · split at h
                  · injection h with e1 e2
                    subst e1; simp; omega
                  · cases h
        · cases h
  exact key _ (Nat.le_refl _) h
section
variable {QD : List (St → Prop)} {QR : CRes → Prop} {L : List Tok} {z : Nat} {g : FuncId} {args : List AV} {H : Heap}
theorem wq_unit {F : Res Unit} {k1 : List (List AV) → Int → Int → Int → Int → KT} (c : QC unitV shUnit F L z g args H)
    (hok : ∀ t k, F = .ok t (L.drop k) → k ≤ L.length → (k1 (tks L) z k (0 : Nat) (0 : Nat)).wp Pg cfg0 evp QD QR)
    (hno : ∀ (e p k : Nat), F = .no e p → e ≠ 0 → (k1 (tks L) z k e p).wp Pg cfg0 evp QD QR) :
    (KT.exR fun m => .exI fun a => .exI fun e => .exI fun p => .exI fun d' => .call g args .none H ⟨.ret (.tuple []), .none, [hp5 m a e p d']⟩ (k1 m a e p d')).wp Pg cfg0 evp QD QR := by
  obtain ⟨r, h1, h2⟩ := c
  cases hF : F with
  | ok t l =>
    rw [hF] at h2
    obtain ⟨k, rfl, hk, rfl⟩ := h2
    exact ⟨_, _, _, _, _, h1, hok t k hF hk⟩
  | no e p =>
    rw [hF] at h2
    obtain ⟨he, k, x, rfl, rfl⟩ := h2
    exact ⟨_, _, _, _, _, h1, hno e p k hF he⟩
theorem wb_unit {k1 : List (List AV) → Int → Int → Int → Int → KT} {k e p : Nat} (c : QB shUnit g args L z) (he : e ≠ 0) (h : (k1 (tks L) z k e p).wp Pg cfg0 evp QD QR) :
    (KT.exR fun m => .exI fun a => .exI fun e' => .exI fun p' => .exI fun d' => .call g args .none (qH L z k e p) ⟨.ret (.tuple []), .none, [hp5 m a e' p' d']⟩ (k1 m a e' p' d')).wp Pg cfg0 evp QD QR := by
  obtain ⟨x, rfl, h1⟩ := c k e p he
  exact ⟨_, _, _, _, _, h1, h⟩
theorem wq_strs {α : Type} {v : α → List T} {F : Res α} {k1 : List (List AV) → List (List AV) → Int → Int → Int → Int → KT} (c : QC (fun x => strsV (v x)) shStrs F L z g args H)
    (hok : ∀ t k, F = .ok t (L.drop k) → k ≤ L.length → (k1 (pRows (v t)) (tks L) z k (0 : Nat) (0 : Nat)).wp Pg cfg0 evp QD QR)
    (hno : ∀ (e p k : Nat) l, F = .no e p → e ≠ 0 → (k1 l (tks L) z k e p).wp Pg cfg0 evp QD QR) :
    (KT.exR fun s => .exR fun m => .exI fun a => .exI fun e => .exI fun p => .exI fun d' => .call g args .none H ⟨.ret (.slice 1 s .no), .none, [hp5 m a e p d']⟩ (k1 s m a e p d')).wp Pg cfg0 evp QD QR := by
  obtain ⟨r, h1, h2⟩ := c
  cases hF : F with
  | ok t l =>
    rw [hF] at h2
    obtain ⟨k, rfl, hk, rfl⟩ := h2
    exact ⟨_, _, _, _, _, _, h1, hok t k hF hk⟩
  | no e p =>
    rw [hF] at h2
    obtain ⟨he, k, x, ⟨l, rfl⟩, rfl⟩ := h2
    exact ⟨_, _, _, _, _, _, h1, hno e p k l hF he⟩
theorem wq_str {F : Res T} {k1 : ByteArray → List (List AV) → Int → Int → Int → Int → KT} (c : QC strV shStr F L z g args H)
    (hok : ∀ t k, F = .ok t (L.drop k) → k ≤ L.length → (k1 (bs t) (tks L) z k (0 : Nat) (0 : Nat)).wp Pg cfg0 evp QD QR)
    (hno : ∀ (e p k : Nat) l, F = .no e p → e ≠ 0 → (k1 l (tks L) z k e p).wp Pg cfg0 evp QD QR) :
    (KT.exS fun s => .exR fun m => .exI fun a => .exI fun e => .exI fun p => .exI fun d' => .call g args .none H ⟨.ret (vS s), .none, [hp5 m a e p d']⟩ (k1 s m a e p d')).wp Pg cfg0 evp QD QR := by
  obtain ⟨r, h1, h2⟩ := c
  cases hF : F with
  | ok t l =>
    rw [hF] at h2
    obtain ⟨k, rfl, hk, rfl⟩ := h2
    exact ⟨_, _, _, _, _, _, h1, hok t k hF hk⟩
  | no e p =>
    rw [hF] at h2
    obtain ⟨he, k, x, ⟨l, rfl⟩, rfl⟩ := h2
    exact ⟨_, _, _, _, _, _, h1, hno e p k l hF he⟩
end
theorem bmem {L : List Tok} {k : Nat} {t : Tok} (h : t ∈ L.drop k) : t ∈ L := List.mem_of_mem_drop h
theorem c_rPath {L : List Tok} {z k0 : Nat} {lo : Bool} (hg : Gd L) (hL : L.length ≤ 100000) (hk0 : k0 ≤ L.length) :
    QC strsV shStrs ((path z lo (!lo) (pl z (L.drop k0)) [] (L.drop k0)).bind fun x r => .ok x.1 r) L z f_waferref05_Reader_Path [.ptr 0 0, vB lo] (qH L z k0 0 0) := by
  refine qc_of (wp_eq2 (X_rPath_eq ..) (wq_strs (v := fun x : List T × Bool => x.1) (c_rpath (lo := lo) hg hL hk0) (fun x k hF hk => ?_) (fun e p k l hF he => wp_if2 (fun _ => ⟨rfl, ?_⟩) (fun h => by rw [ne0i he] at h; cases h))))
  · obtain ⟨q, t, h1, h2, h3, h4⟩ := path_last _ (Nat.le_refl _) hF
    have hgt := hg t (bmem h2)
    refine wp_if2 (fun h => absurd h (by decide)) (fun _ => ?_)
    have hlen : (pRows x.1).length = q.length + 1 := by rw [h1]; simp
    have hidx : IntKind.i64.wrap (((pRows x.1).length : Int) - 1) = (q.length : Int) := by
      rw [hlen]
      have hq : q.length < BIG := by
        have := path_len _ (Nat.le_refl _) hF
        have hp8 : x.1.length ≤ 8 := by
          -- a path has at most eight names
          exact path_8 hF
        rw [h1] at hp8; simp at hp8; unfold BIG; omega
      exact wrapD hq
    rw [hidx]
    have hrow : (pRows x.1)[q.length]? = some [vS (bs t.text)] := by rw [h1]; simp [pRows]
    have hch : ∃ c r, t.text = c :: r ∧ decide ((c.toNat : Int) ≥ 97) = x.2 := by
      cases hx : x.2 with
      | true =>
        rw [hx] at h3
        obtain ⟨c, r, e1, e2⟩ := hgt.2.1 h3
        refine ⟨c, r, e1, decide_eq_true ?_⟩
        simp only [Lx.low, Bool.and_eq_true, decide_eq_true_eq, UInt8.le_iff_toNat_le] at e2
        have : (97 : UInt8).toNat = 97 := rfl
        omega
      | false =>
        rw [hx] at h3
        obtain ⟨c, r, e1, e2⟩ := hgt.2.2.1 h3
        refine ⟨c, r, e1, decide_eq_false ?_⟩
        simp only [Lx.high, Bool.and_eq_true, decide_eq_true_eq, UInt8.le_iff_toNat_le] at e2
        have : (90 : UInt8).toNat = 90 := rfl
        omega
    obtain ⟨c, r, e1, e2⟩ := hch
    refine ⟨bs t.text, ⟨Int.natCast_nonneg _, by rw [Int.toNat_natCast]; exact hrow⟩, c, ⟨by decide, by rw [e1]; rfl⟩, ?_⟩
    rw [e2]
    refine wp_if2 (fun hne => ?_) (fun hne => ⟨rfl, ?_⟩)
    · -- the last name is not of the sort
      have hlo : lo = true ∧ x.2 = false := by
        cases lo with
        | true => exact ⟨rfl, by simpa using hne⟩
        | false =>
          have : x.2 = true := by simpa using hne
          exact absurd (h4 this) (by decide)
      have hFn : ((path z lo (!lo) (pl z (L.drop k0)) [] (L.drop k0)).bind fun x r => Res.ok x.1 r) = .no 11 (pl z (L.drop k)) := by
        have hF' := hF
        rw [hlo.1] at hF' ⊢
        rw [Bool.not_true, path_low _ (Nat.le_refl _), hF']
        simp only [Res.bind, hlo.2, Bool.false_eq_true, if_false]
      rw [hFn]
      refine wp_if2 (fun _ => ?_) (fun h => absurd h (by decide))
      cases hD : L.drop k with
      | nil => exact wp_if2 (lt_len hD) (fun _ => ⟨rfl, rfl, rfl, qq_no (k := k) (e := 11) rfl (by decide) ⟨_, rfl⟩⟩)
      | cons t' r' => exact wp_if2 (fun _ => ⟨_, _, _, _, rowk (dropc hD).2.1, rfl, rfl, rfl, qq_no (k := k) (e := 11) rfl (by decide) ⟨_, rfl⟩⟩) (not_lt hD)
    · refine qq_ok (a := x.1) (k := k) (l := L.drop k) ?_ rfl hk rfl
      cases lo with
      | true =>
        have hx : x.2 = true := by simpa using hne
        rw [Bool.not_true, path_low _ (Nat.le_refl _), hF]
        simp only [Res.bind, hx, if_true]
      | false => rw [Bool.not_false, hF]; rfl
  · refine qq_no ?_ he ⟨_, rfl⟩
    cases lo with
    | true => rw [Bool.not_true, path_low _ (Nat.le_refl _), hF]; rfl
    | false => rw [Bool.not_false, hF]; rfl
end Go.Proofs
end

section
/- PARSE: the document's reader: types -/
set_option linter.unusedVariables false
set_option linter.unusedSimpArgs false
set_option maxRecDepth 100000
open Go Go.Eng Go.Pa
open Go.Lx (T Tok)
namespace Go.Proofs
theorem dlen {L : List Tok} {j k : Nat} (hk : k ≤ L.length) (hj : j ≤ L.length) (h : (L.drop j).length < (L.drop k).length) : k < j := by
  simp at h; omega
end Go.Proofs
end

section
/- LEX: what the document's functions answer, part 2: next, Lex; the law LexLexes -/
open Go Go.Eng Go.Lx
namespace Go.Proofs
set_option linter.unusedVariables false
set_option linter.unusedSimpArgs false
set_option maxRecDepth 100000
theorem high_res {c : UInt8} {l : T} (h : high c = true) : resP (c :: l) = false := by
  rw [Bool.eq_false_iff]
  intro hr
  have hw : ∀ w ∈ words, (w.head?.map low).getD false = true := by decide
  unfold resP at hr
  rw [List.any_eq_true] at hr
  obtain ⟨w, hm, he⟩ := hr
  have he := of_decide_eq_true he
  have := hw w hm
  rw [← he] at this
  have hl : low c = true := by simpa using this
  rw [low_high hl] at h; cases h
/-- what ref's next comes to -/
def rV (s : ByteArray) (a : Nat) (x : Except Nat Tk) (r : CRes) : Prop :=
  match x with
  | .ok t => r = ⟨.ret (oneV s a (.ok t)), .none, []⟩
  | .error e => ∃ (k n m : Int) (b : ByteArray), r = ⟨.ret (.tuple [.agg [vI k, vS b, vI n, vI m], vI e]), .none, []⟩
theorem rV_err {s : ByteArray} {a : Nat} {e : Nat} {x : Except Nat Tk} {k n m : Int} {b : ByteArray} (h : x = .error e) : rV s a x ⟨.ret (.tuple [.agg [vI k, vS b, vI n, vI m], vI e]), .none, []⟩ := by
  subst h; exact ⟨_, _, _, _, rfl⟩
theorem rV_ok {s : ByteArray} {a k n v : Nat} {x : Except Nat Tk} (h : x = .ok (k, n, v)) : rV s a x ⟨.ret (.tuple [.agg [vI k, vS (s.extract a (a + n)), vI v, vI a], vI 0]), .none, []⟩ := by
  subst h; rfl
theorem y_rnextK (s : ByteArray) (a : Nat) (q i : Int) : (X_rnext s a).K ⟨tm2 126 [(0, (vS (s))), (1, (vI ((↑a : Int)))), (4, (.lp 4 0 0)), (6, (.lp 6 0 0)), (7, (vI (i)))], lm2 126 [(4, (0, [(vI (0)), (vS ((⟨#[]⟩ : ByteArray))), (vI (0)), (vI (0))])), (6, (0, [(vI (q)), (vS ((⟨#[]⟩ : ByteArray))), (vI (0)), (vI ((↑a : Int)))]))], ⟨[], [], .none, 0⟩⟩ = Y_rnextK s a q i := by delta Y_rnextK X_rnext; rfl
theorem y_rnextD (s : ByteArray) (a : Nat) (y : UInt8) (b : Bool) (y1 : UInt8) (b1 : Bool) (y2 y3 : UInt8) (b2 : Bool) : ((((((((X_rnext s a).T.Y y).T.B b).T.F.Y y1).T.B b1).T.F.Y y2).T.F.Y y3).T.B b2).T.T = Y_rnextD s a y b y1 b1 y2 y3 b2 := by delta Y_rnextD X_rnext; rfl
theorem rnext_fin {s : ByteArray} {a : Nat} {q n : Nat} {x : Except Nat Tk} {QD : List (St → Prop)} (hn : a + n ≤ s.size) (h : x = if n = 0 then .error 10 else if q ≠ 6 ∧ 32 < n then .error 12 else .ok (q, n, 0)) :
    ((X_rnext s a).K ⟨tm2 126 [(0, (vS (s))), (1, (vI ((↑a : Int)))), (4, (.lp 4 0 0)), (6, (.lp 6 0 0)), (7, (vI ((a + n : Nat) : Int)))], lm2 126 [(4, (0, [(vI (0)), (vS ((⟨#[]⟩ : ByteArray))), (vI (0)), (vI (0))])), (6, (0, [(vI (q)), (vS ((⟨#[]⟩ : ByteArray))), (vI (0)), (vI ((↑a : Int)))]))], ⟨[], [], .none, 0⟩⟩).wp Pg cfg0 evp QD (rV s a x) := by
  refine wp_eq2 (y_rnextK s a q _) (wp_eq2 (X_rnextK_eq s a q _) ⟨by apply decide_eq_true; omega, wp_if2 (fun h0 => ?_) (fun h0 => ?_)⟩)
  · have h0 : ((a + n : Nat) : Int) = (a : Int) := by simpa using h0
    rw [if_pos (by omega)] at h
    exact ⟨rfl, rV_err h⟩
  · have h0 : ¬ ((a + n : Nat) : Int) = (a : Int) := by simpa using h0
    rw [if_neg (by omega)] at h
    refine wp_if2 (fun h6 => ?_) (fun h6 => ?_)
    · have h6 : ¬ (q : Int) = 6 := by simpa using h6
      rw [Int.toNat_natCast, Int.toNat_natCast, ext_size hn]
      refine wp_if2 (fun h3 => ?_) (fun h3 => ?_)
      · have h3 := of_decide_eq_true h3
        rw [if_pos ⟨by omega, by omega⟩] at h
        exact ⟨rfl, rV_err h⟩
      · have h3 := of_decide_eq_false h3
        rw [if_neg (by omega)] at h
        exact ⟨rfl, rV_ok h⟩
    · have h6 : (q : Int) = 6 := by simpa using h6
      rw [if_neg (by omega)] at h
      exact ⟨rfl, rV_ok h⟩
def numT (s : ByteArray) (a i : Nat) : KT :=
  .out (.need (decide (0 ≤ (a : Int) ∧ (a : Int) ≤ (i : Int) ∧ (i : Int) ≤ (s.size : Int)))
    (.exI fun i1 => .exB fun b4 => .call f_waferref03_number [vS (s.extract (a : Int).toNat (i : Int).toNat)] .none [] ⟨.ret (.tuple [vI i1, vB b4]), .none, []⟩
      (.branch (!b4) (.out (.need true (.ret ⟨.ret (.tuple [.agg [vI 0, vS ⟨#[]⟩, vI 0, vI a], vI 1]), .none, []⟩)))
        (.need (decide (0 ≤ (a : Int) ∧ (a : Int) ≤ (i : Int) ∧ (i : Int) ≤ (s.size : Int)))
          (.out (.need true (.ret ⟨.ret (.tuple [.agg [vI 4, vS (s.extract (a : Int).toNat (i : Int).toNat), vI i1, vI a], vI 0]), .none, []⟩))))))
)
theorem c_rnext {s : ByteArray} {a : Nat} (hs : s.size ≤ 4096) (ha : a < s.size) : ∃ r, evp f_waferref03_next [vS s, vI a] .none [] = some r ∧ rV s a (one resP ((tx s).drop a)) r := by
  have hB : s.size < BIG := by unfold BIG; omega
  obtain ⟨c, r, hd, hc, hr⟩ := tx_at ha
  have hlen : r.length + 1 = s.size - a := by have e := congrArg List.length hd; rw [List.length_drop, tx_len] at e; simp at e; omega
  refine kt3_ex (wp_eq2 (X_rnext_eq s a) (wp_stage (wp_at hc ⟨_, c_rlow c, ?_⟩)))
  rw [hd]
  -- words
  have hword : low c = true ∨ high c = true → one resP (c :: r) = if span wordB (c :: r) = 0 then .error 10 else if (if high c then 2 else if resP ((c :: r).take (span wordB (c :: r))) then 3 else 1) ≠ 6 ∧ 32 < span wordB (c :: r) then .error 12 else .ok (if high c then 2 else if resP ((c :: r).take (span wordB (c :: r))) then 3 else 1, span wordB (c :: r), 0) := by
    intro hlh
    have hw : wordB c = true := by unfold wordB; rcases hlh with h | h <;> simp [h]
    have h0 : span wordB (c :: r) ≠ 0 := by simp [span, hw]
    have hk : (if high c then 2 else if resP ((c :: r).take (span wordB (c :: r))) then 3 else 1) ≠ 6 := by split <;> (try split) <;> omega
    rw [if_neg h0]
    unfold one
    have : (low c || high c) = true := by rcases hlh with h | h <;> simp [h]
    simp only [this, if_true]
    by_cases h32 : 32 < span wordB (c :: r)
    · rw [if_pos h32]; exact (if_pos ⟨hk, h32⟩).symm
    · rw [if_neg h32]; exact (if_neg fun h => h32 h.2).symm
  have hspan := span_drop wordB s a (Nat.le_of_lt ha)
  have hrun := c_rrun true hB (Nat.le_of_lt ha)
  rw [show runB true = wordB from rfl] at hrun
  rw [hd] at hspan hrun
  have hresA : ∀ n, evp f_waferref02_Reserved [vS (s.extract (a : Int).toNat ((a + n : Nat) : Int).toNat)] .none [] = some ⟨.ret (vB (resP ((c :: r).take n))), .none, []⟩ := fun n => by
    have e : tx (s.extract (a : Int).toNat ((a + n : Nat) : Int).toNat) = (c :: r).take n := by rw [Int.toNat_natCast, Int.toNat_natCast, tx_ext_n, hd]
    rw [c_rReserved, e]
  have hhr : high c = true → 1 ≤ span wordB (c :: r) → resP ((c :: r).take (span wordB (c :: r))) = false := fun h1 h2 => by
    cases hsp : span wordB (c :: r) with
    | zero => omega
    | succ n => rw [List.take_succ_cons]; exact high_res h1
  have hpos : low c = true ∨ high c = true → 1 ≤ span wordB (c :: r) := by
    intro hlh
    have hw : wordB c = true := by unfold wordB; rcases hlh with h | h <;> simp [h]
    simp [span, hw]
  refine wp_if2 (fun hl => ?_) (fun hl => ?_)
  · have hfin := rnext_fin (s := s) (a := a) (QD := []) hspan (hword (.inl hl))
    have hh := low_high hl
    rw [hh] at hfin
    refine ⟨_, hrun, wp_stage (wp_at hc ⟨_, c_rhigh c, wp_if2 (fun h => by rw [hh] at h; cases h) (fun _ => wp_done (wp_eq2 (X_rnexts1_eq s a c _ _ 1) ⟨by apply decide_eq_true; omega, _, hresA _, wp_if2 (fun h3 => wp_done ?_) (fun h3 => wp_done ?_)⟩))⟩)⟩
    · rw [h3] at hfin; exact hfin
    · rw [h3] at hfin; exact hfin
  refine wp_at hc ⟨_, c_rhigh c, wp_if2 (fun hh => ?_) (fun hh => ?_)⟩
  · have hfin := rnext_fin (s := s) (a := a) (QD := []) hspan (hword (.inr hh))
    rw [hh] at hfin
    have hrf := hhr hh (hpos (.inr hh))
    refine ⟨_, hrun, wp_stage (wp_at hc ⟨_, c_rhigh c, wp_if2 (fun _ => wp_done (wp_eq2 (X_rnexts2_eq s a c _ c _ _ 2) ⟨by apply decide_eq_true; omega, _, hresA _, wp_if2 (fun h3 => ?_) (fun h3 => wp_done hfin)⟩)) (fun h => by rw [hh] at h; cases h)⟩)⟩
    rw [hrf] at h3; cases h3
  refine wp_at hc ?_
  rw [c39]
  refine wp_if2 (fun hq => ?_) (fun hq => ?_)
  · have hg : digit c = false := by
      have : c = 39 := by simpa using hq
      subst this; decide
    have hone : one resP (c :: r) = if !(r.head?.map low).getD false then .error 10 else if 32 < span tyvB r + 1 then .error 12 else .ok (5, span tyvB r + 1, 0) := by
      unfold one
      simp only [hl, hh, hg, hq, Bool.or_false, Bool.false_eq_true, if_false, if_true]
    rw [kw_succ' (by omega)]
    refine wp_stage (wp_if2 (fun hz => ?_) (fun hz => ?_))
    · have hz := of_decide_eq_true hz
      have hr0 : r = [] := by rw [hr]; exact List.drop_eq_nil_of_le (by rw [tx_len]; omega)
      refine wp_out (wp_out ⟨rfl, rV_err ?_⟩)
      rw [hone, hr0]; rfl
    · have hz := of_decide_eq_false hz
      cases hrr : r with
      | nil => rw [hrr] at hlen; simp at hlen; omega
      | cons d r' =>
        have hd2 := hr.symm.trans hrr
        obtain ⟨_, hc2, _⟩ := tx_of hd2
        rw [hrr] at hone
        refine wp_at hc2 ⟨_, c_rlow d, wp_if2 (fun hb => ?_) (fun hb => ?_)⟩
        · have hb : low d = false := by simpa using hb
          refine wp_out (wp_out ⟨rfl, rV_err ?_⟩)
          rw [hone]; simp [hb]
        · have hb : low d = true := by simpa using hb
          have hn := span_drop tyvB s (a + 1) (by omega)
          have h3 := c_rrun false hB (a := a + 1) (by omega)
          rw [show runB false = tyvB from rfl] at h3
          rw [← hr, hrr] at hn h3
          refine wp_done (wp_eq2 (X_rnexts3_eq s a c _ c _ c) ?_)
          rw [kw_succ' (by omega)]
          refine ⟨_, h3, wp_done ?_⟩
          have e : a + 1 + span tyvB (d :: r') = a + (span tyvB (d :: r') + 1) := by omega
          rw [e] at hn ⊢
          refine rnext_fin hn ?_
          rw [hone]
          simp only [List.head?_cons, Option.map_some, Option.getD_some, hb, Bool.not_true, Bool.false_eq_true, if_false]
          by_cases h32 : 32 < span tyvB (d :: r') + 1
          · simp [h32]
          · simp [h32]
  refine wp_at hc ⟨_, c_rdigit c, wp_if2 (fun hg => ?_) (fun hg => ?_)⟩
  · have hn := span_drop digit s a (by omega)
    rw [hd] at hn
    have hall : ∀ x ∈ (c :: r).take (span digit (c :: r)), digit x = true := fun x hx => span_all x hx
    have hone : one resP (c :: r) = match numFrom 0 ((c :: r).take (span digit (c :: r))) with
        | none => .error 1
        | some v => .ok (4, span digit (c :: r), v) := by
      unfold one
      simp only [hl, hh, hg, Bool.or_false, Bool.false_eq_true, if_false, if_true]
      cases numFrom 0 ((c :: r).take (span digit (c :: r))) <;> rfl
    rw [hone]
    have hd' := hd
    have hspd : span digit ((tx s).drop a) = span digit (c :: r) := by rw [hd]
    generalize span digit (c :: r) = n at *
    have et : tx (s.extract (a : Int).toNat ((a + n : Nat) : Int).toNat) = (c :: r).take n := by rw [Int.toNat_natCast, Int.toNat_natCast, tx_ext_n, hd]
    have hnum := c_rnumber (s := s.extract (a : Int).toNat ((a + n : Nat) : Int).toNat) (by rw [Int.toNat_natCast, Int.toNat_natCast, ByteArray.size_extract]; unfold BIG; omega) (by rw [et]; exact hall)
    rw [et] at hnum
    refine wp_eq2 (y_rnextD s a c _ c _ c c _) (loop3 (fun i : Nat => ⟨tm2 126 [(0, (vS (s))), (1, (vI ((↑a : Int)))), (4, (.lp 4 0 0)), (6, (.lp 6 0 0)), (7, (vI i))], lm2 126 [(4, (0, [(vI (0)), (vS ((⟨#[]⟩ : ByteArray))), (vI (0)), (vI (0))])), (6, (0, [(vI (0)), (vS ((⟨#[]⟩ : ByteArray))), (vI (0)), (vI ((↑a : Int)))]))], ⟨[], [], .none, 0⟩⟩)
      (fun i => a ≤ i ∧ i ≤ s.size ∧ i + span digit ((tx s).drop i) = a + n) (fun i => s.size - i) a (by kernel_rfl) ⟨Nat.le_refl _, Nat.le_of_lt ha, by rw [hspd]⟩ ?_)
    rintro i ⟨h1, h2, h3⟩
    have fin : i = a + n → ∀ Q1 Q2 : St → Prop, (numT s a i).wp Pg cfg0 evp [Q1, Q2] (rV s a (match numFrom 0 ((c :: r).take n) with | none => .error 1 | some v => .ok (4, n, v))) := by
      intro hi Q1 Q2
      subst hi
      unfold numT
      cases hv : numFrom 0 ((c :: r).take n) with
      | none =>
        rw [hv] at hnum
        exact wp_out ⟨by apply decide_eq_true; omega, _, _, hnum, wp_if2 (fun _ => wp_out ⟨rfl, rV_err rfl⟩) (fun h => absurd h (by decide))⟩
      | some v =>
        rw [hv] at hnum
        exact wp_out ⟨by apply decide_eq_true; omega, _, _, hnum, wp_if2 (fun h => absurd h (by decide)) (fun _ => ⟨by apply decide_eq_true; omega, wp_out ⟨rfl, rV_ok rfl⟩⟩)⟩
    refine wp_eq2 (X_rnextDR_eq s a c _ c _ c c _ i) (wp_if2 (fun h => ?_) (fun h => ?_))
    · have h := of_decide_eq_true h
      obtain ⟨x, rx, hdx, hcx, hrx⟩ := tx_at (s := s) (i := i) (by omega)
      rw [hdx, span] at h3
      refine wp_at hcx ⟨_, c_rdigit x, wp_if2 (fun hb => ?_) (fun hb => ?_)⟩
      · rw [if_pos hb, hrx] at h3
        rw [kw_succ' (by omega)]
        exact wp_done ⟨i + 1, ⟨⟨by omega, by omega, by omega⟩, by omega⟩, rfl⟩
      · rw [if_neg (by rw [hb]; decide)] at h3
        exact fin (by omega) _ _
    · have h := of_decide_eq_false h
      have hi : i = s.size := by omega
      rw [List.drop_eq_nil_of_le (by rw [tx_len]; omega)] at h3
      exact fin (by simpa [span] using h3) _ _
  · have hone : one resP (c :: r) = if two (c :: r) then .ok (6, 2, 0) else if marks.contains c then .ok (6, 1, 0) else .error 10 := by
      unfold one
      simp only [hl, hh, hg, hq, Bool.or_false, Bool.false_eq_true, if_false]
    have hm := c_rmark hB hd
    refine ⟨_, hm, wp_done ?_⟩
    by_cases h2 : two (c :: r) = true
    · rw [if_pos h2]
      have hr1 : 1 ≤ r.length := by
        rw [two_eq] at h2
        cases r with
        | nil => simp at h2
        | cons d r => simp
      have e : IntKind.i64.wrap ((a : Int) + 2) = ((a + 2 : Nat) : Int) := kw_two (by omega)
      rw [e]
      exact rnext_fin (n := 2) (by omega) (by rw [hone, if_pos h2]; rfl)
    · rw [if_neg h2]
      by_cases hmk : marks.contains c = true
      · rw [if_pos hmk]
        have e : IntKind.i64.wrap ((a : Int) + 1) = ((a + 1 : Nat) : Int) := kw_succ' (by omega)
        rw [e]
        exact rnext_fin (n := 1) (by omega) (by rw [hone, if_neg h2, if_pos hmk]; rfl)
      · rw [if_neg hmk]
        have e : IntKind.i64.wrap ((a : Int) + 0) = ((a + 0 : Nat) : Int) := by rw [IntKind.wrap_i64]; omega
        rw [e]
        exact rnext_fin (n := 0) (by omega) (by rw [hone, if_neg h2, if_neg hmk]; rfl)
end Go.Proofs
end
