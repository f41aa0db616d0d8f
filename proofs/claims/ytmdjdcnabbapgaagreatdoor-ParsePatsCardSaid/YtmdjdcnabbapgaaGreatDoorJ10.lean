/- Texts of this proof folded into one: TF RX7 A2 E31 RX13. -/
import Derived.Test.YtmdjdcnabbapgaaGreatDoorJ7
import Derived.Test.YtmdjdcnabbapgaaGreatDoorJ9
import Derived.Test.YtmdjdcnabbapgaaGreatDoorJ6
section
open Go Go.Eng
namespace Go.Proofs
noncomputable def shL7 : List (Nat × KM) := [(f_lex_Lex, .con (some (resSh Pg f_lex_Lex)) none false),
  (f_waferref03_Lex, .con (some (resSh Pg f_waferref03_Lex)) none false),
  (f_tree_RightTy, .con (some (resSh Pg f_tree_RightTy)) none false),
  (f_tree_RightPat, .con (some (resSh Pg f_tree_RightPat)) none false),
  (f_tree_RightExp, .con (some (resSh Pg f_tree_RightExp)) none false),
  (f_waferref04_RightTy, .con (some (resSh Pg f_waferref04_RightTy)) none false),
  (f_waferref04_RightPat, .con (some (resSh Pg f_waferref04_RightPat)) none false),
  (f_waferref04_RightExp, .con (some (resSh Pg f_waferref04_RightExp)) none false),
  (f_waferref04_SameTy, .con (some (resSh Pg f_waferref04_SameTy)) none false),
  (f_waferref04_SamePat, .con (some (resSh Pg f_waferref04_SamePat)) none false),
  (f_waferref04_SameExp, .con (some (resSh Pg f_waferref04_SameExp)) none false),
  (f_waferlaw05_alive, .con (some (resSh Pg f_waferlaw05_alive)) none false),
  (f_parsecore_Ty, .con (some (resSh Pg f_parsecore_Ty)) none false),
  (f_parsecore_Pat, .con (some (resSh Pg f_parsecore_Pat)) none false),
  (f_parsecore_Exp, .con (some (resSh Pg f_parsecore_Exp)) none false),
  (f_waferref05_Ty, .con (some (resSh Pg f_waferref05_Ty)) none false),
  (f_waferref05_Pat, .con (some (resSh Pg f_waferref05_Pat)) none false),
  (f_waferref05_Exp, .con (some (resSh Pg f_waferref05_Exp)) none false),
  (f_lex_Join, .con (some (resSh Pg f_lex_Join)) none false),
  (f_parsecore_Read, .keep),
  (f_waferref05_Read, .keep),
  (f_parsecore_whole_api_Ty, .inl true),
  (f_parsecore_Reader_Ty, .con (some (resSh Pg f_parsecore_Reader_Ty)) (some (y_parsecore_failure, .const (.agg []))) true),
  (f_waferref05_Reader_Ty, .con (some (resSh Pg f_waferref05_Reader_Ty)) none true),
  (f_parsecore_whole_api_Pat, .inl true),
  (f_parsecore_Reader_Pat, .con (some (resSh Pg f_parsecore_Reader_Pat)) (some (y_parsecore_failure, .const (.agg []))) true),
  (f_waferref05_Reader_Pat, .con (some (resSh Pg f_waferref05_Reader_Pat)) none true),
  (f_parsecore_whole_api_Exp, .inl true),
  (f_parsecore_Reader_Exp, .con (some (resSh Pg f_parsecore_Reader_Exp)) (some (y_parsecore_failure, .const (.agg []))) true),
  (f_waferref05_Reader_Exp, .con (some (resSh Pg f_waferref05_Reader_Exp)) none true)]
noncomputable def sh7 : FuncId → KM := fun f => match shL7.lookup f with
  | some k => k
  | none => .inl false
@[irreducible] noncomputable def ktc7 (f : FuncId) (args : List AV) (H : Heap) : KT := ktree Pg cfg0 rs0 sh7 12 true f args .none H
theorem ktc7_ev {f : FuncId} {args : List AV} {H : Heap} {r : CRes} (h : (ktc7 f args H).wp Pg cfg0 evp [] (fun x => x = r)) : evp f args .none H = some r := by
  delta ktc7 at h
  obtain ⟨x, h1, rfl⟩ := ktree_sound (ev_byCode hx0) h
  exact h1
end Go.Proofs
end

section
/- TREES, printed by kt.py out of y7.txt -/
open Go Go.Eng
namespace Go.Proofs
set_option linter.unusedVariables false
set_option maxRecDepth 100000
theorem X_alive_eq (s : ByteArray) : ktc7 f_waferlaw05_alive [] [] =
 (.exI fun i =>
 (.exI fun i1 =>
 (.exI fun i2 =>
 (.exR fun l =>
 (.exR fun l1 =>
 (.exR fun l2 =>
 (.exR fun l3 =>
 (.exR fun l4 =>
 (.exI fun i3 =>
 (.exI fun i4 =>
 (.call f_parsecore_Exp [(vS ((⟨#[102, 32, 120, 32, 43, 32, 49]⟩ : ByteArray)))] .none [] ⟨(.ret (.tuple [(.agg [(vI (i)), (vI (i1)), (vI (i2)), (.slice 1 (l) .no), (.slice 5 (l1) .no), (.slice 8 (l2) .no), (.slice 9 (l3) .no), (.slice 4 (l4) .no)]), (vI (i3)), (vI (i4))])), .none, []⟩
 (.exI fun i5 =>
 (.exI fun i6 =>
 (.exI fun i7 =>
 (.exR fun l5 =>
 (.exR fun l6 =>
 (.exR fun l7 =>
 (.exR fun l8 =>
 (.exR fun l9 =>
 (.exI fun i8 =>
 (.exI fun i9 =>
 (.call f_parsecore_Exp [(vS ((⟨#[97, 32, 60, 32, 98, 32, 60, 32, 99]⟩ : ByteArray)))] .none [] ⟨(.ret (.tuple [(.agg [(vI (i5)), (vI (i6)), (vI (i7)), (.slice 1 (l5) .no), (.slice 5 (l6) .no), (.slice 8 (l7) .no), (.slice 9 (l8) .no), (.slice 4 (l9) .no)]), (vI (i8)), (vI (i9))])), .none, []⟩
 (.exI fun i10 =>
 (.exS fun s1 =>
 (.exR fun l10 =>
 (.exR fun l11 =>
 (.exI fun i11 =>
 (.exI fun i12 =>
 (.call f_parsecore_Ty [(vS ((⟨#[105, 110, 116, 32, 42, 32, 98, 111, 111, 108, 32, 45, 62, 32, 39, 97]⟩ : ByteArray)))] .none [] ⟨(.ret (.tuple [(.agg [(vI (i10)), (vS (s1)), (.slice 1 (l10) .no), (.slice 4 (l11) .no)]), (vI (i11)), (vI (i12))])), .none, []⟩
 (.branch (i4 == 0)
 (.branch (i == 13)
 (.branch (i1 == 1)
 (.branch ((↑l2.length : Int) == 2)
 (.exI fun i13 =>
 (.exI fun i14 =>
 (.exI fun i15 =>
 (.exR fun l12 =>
 (.exR fun l13 =>
 (.exR fun l14 =>
 (.exR fun l15 =>
 (.exR fun l16 =>
 (.row (l2) (0) [(vI (i13)), (vI (i14)), (vI (i15)), (.slice 1 (l12) .no), (.slice 5 (l13) .no), (.slice 8 (l14) .no), (.slice 9 (l15) .no), (.slice 4 (l16) .no)]
 (.branch (i13 == 8)
 (.branch (i9 == 11)
 (.branch (i8 == 6)
 (.branch (i12 == 0)
 (.ret ⟨(.ret (vB (i10 == 3))), .none, []⟩)
 (.ret ⟨(.ret (vB false)), .none, []⟩))
 (.ret ⟨(.ret (vB false)), .none, []⟩))
 (.ret ⟨(.ret (vB false)), .none, []⟩))
 (.ret ⟨(.ret (vB false)), .none, []⟩)))))))))))
 (.ret ⟨(.ret (vB false)), .none, []⟩))
 (.ret ⟨(.ret (vB false)), .none, []⟩))
 (.ret ⟨(.ret (vB false)), .none, []⟩))
 (.ret ⟨(.ret (vB false)), .none, []⟩))))))))))))))))))))))))))))))) := by kernel_rfl
end Go.Proofs
end

section
/- PARSE: the chapter's examples come -/
set_option linter.unusedVariables false
set_option linter.unusedSimpArgs false
set_option maxRecDepth 100000
open Go Go.Eng
namespace Go.Proofs
theorem alive5 : evp f_waferlaw05_alive [] .none [] = some ⟨.ret (vB true), .none, []⟩ := by
  refine ktc7_ev (wp_eq2 (X_alive_eq ⟨#[]⟩) ⟨_, _, _, _, _, _, _, _, _, _, a_A, _, _, _, _, _, _, _, _, _, _, a_B, _, _, _, _, _, _, a_C, ?_⟩)
  exact wp_if2 (fun _ => wp_if2 (fun _ => wp_if2 (fun _ => wp_if2 (fun _ => ⟨_, _, _, _, _, _, _, _, ⟨Int.le_refl _, rfl⟩, wp_if2 (fun _ => wp_if2 (fun _ => wp_if2 (fun _ => wp_if2 (fun _ => rfl) (fun h => absurd h (by decide))) (fun h => absurd h (by decide))) (fun h => absurd h (by decide))) (fun h => absurd h (by decide))⟩) (fun h => absurd h (by decide))) (fun h => absurd h (by decide))) (fun h => absurd h (by decide))) (fun h => absurd h (by decide))
end Go.Proofs
end

section
/-
  THE ENGINE, part 31: a tree without the ways that can't be gone: which side a branch is taken to is told by hints (PH; a number's digits); what a hint says of a truth value that is not plain stays to be shown (.need).
-/
set_option linter.unusedVariables false
set_option linter.unusedSimpArgs false
namespace Go.Eng
/-- k: the rest as it is; l, r: one side, its condition stays to be shown; L, R: one side, the condition is plain; b: both; n: a plain condition falls away; m: it stays. -/
inductive PH where
  | k
  | l (h : PH)
  | r (h : PH)
  | L (h : PH)
  | R (h : PH)
  | b (x y : PH)
  | n (h : PH)
  | m (h : PH)
def phGo : Nat → Nat → PH × Nat
  | 0, d => (.k, d)
  | f + 1, d => match d % 8 with
    | 0 => (.k, d / 8)
    | 1 => (.l (phGo f (d / 8)).1, (phGo f (d / 8)).2)
    | 2 => (.r (phGo f (d / 8)).1, (phGo f (d / 8)).2)
    | 3 => (.L (phGo f (d / 8)).1, (phGo f (d / 8)).2)
    | 4 => (.R (phGo f (d / 8)).1, (phGo f (d / 8)).2)
    | 5 => match phGo f (d / 8) with
      | (x, e) => (.b x (phGo f e).1, (phGo f e).2)
    | 6 => (.n (phGo f (d / 8)).1, (phGo f (d / 8)).2)
    | _ => (.m (phGo f (d / 8)).1, (phGo f (d / 8)).2)
def PH.of (d : Nat) : PH := (phGo 10000 d).1
noncomputable def KT.prune (t : KT) : PH → KT :=
  KT.rec (motive := fun _ => PH → KT)
    (fun _ => .fail) (fun s _ => .done s) (fun _ ih h => .out (ih h)) (fun r _ => .ret r)
    (fun b t f iht ihf h => match h with
      | .l h => .need b (iht h)
      | .r h => .need (!b) (ihf h)
      | .L h => match b with
        | true => iht h
        | false => .fail
      | .R h => match b with
        | true => .fail
        | false => ihf h
      | .b x y => .branch b (iht x) (ihf y)
      | _ => .branch b t f)
    (fun b t ih h => match h with
      | .n h => match b with
        | true => ih h
        | false => .fail
      | .m h => .need b (ih h)
      | _ => .need b t)
    (fun _ ih h => .exI fun i => ih i h) (fun _ ih h => .exB fun i => ih i h) (fun _ ih h => .exS fun i => ih i h) (fun _ ih h => .exR fun i => ih i h) (fun _ ih h => .exA fun i => ih i h) (fun _ ih h => .exY fun i => ih i h)
    (fun rows i cells _ ih h => .row rows i cells (ih h)) (fun s i b _ ih h => .byte s i b (ih h)) (fun rows s _ ih h => .bytes rows s (ih h)) (fun p _ ih h => .prop p (ih h)) (fun g args rm H r _ ih h => .call g args rm H r (ih h))
    (fun t f iht ihf h => match h with
      | .b x y => .alt (iht x) (ihf y)
      | _ => .alt t f)
    (fun _ k ih _ h => .stage (ih h) k)
    (fun f b x s k _ _ => .loop f b x s k)
    t
section
variable {P : Program} {cfg : FuncId → FCfg} {call : CallF}
theorem prune_wp (t : KT) : ∀ (h : PH) (QD : List (St → Prop)) (QR : CRes → Prop), (t.prune h).wp P cfg call QD QR → t.wp P cfg call QD QR := by
  induction t with
  | fail => intro h QD QR w; exact w
  | done s => intro h QD QR w; exact w
  | out t ih =>
    intro h QD QR w
    cases QD with
    | nil => exact w
    | cons Q r => exact ih h r QR w
  | ret r => intro h QD QR w; exact w
  | branch b t f iht ihf =>
    intro h QD QR w
    cases h with
    | l h => exact ⟨fun _ => iht h QD QR w.2, fun e => (by have := w.1; rw [e] at this; cases this)⟩
    | r h => exact ⟨fun e => (by have := w.1; rw [e] at this; cases this), fun _ => ihf h QD QR w.2⟩
    | L h => cases b with
      | true => exact ⟨fun _ => iht h QD QR w, fun e => by cases e⟩
      | false => exact False.elim w
    | R h => cases b with
      | true => exact False.elim w
      | false => exact ⟨fun e => (by cases e), fun _ => ihf h QD QR w⟩
    | b x y => exact ⟨fun e => iht x QD QR (w.1 e), fun e => ihf y QD QR (w.2 e)⟩
    | k => exact w
    | n h => exact w
    | m h => exact w
  | need b t ih =>
    intro h QD QR w
    cases h with
    | n h => cases b with
      | true => exact ⟨rfl, ih h QD QR w⟩
      | false => exact False.elim w
    | m h => exact ⟨w.1, ih h QD QR w.2⟩
    | k => exact w
    | l h => exact w
    | r h => exact w
    | L h => exact w
    | R h => exact w
    | b x y => exact w
  | exI k ih => intro h QD QR w; obtain ⟨i, w⟩ := w; exact ⟨i, ih i h QD QR w⟩
  | exB k ih => intro h QD QR w; obtain ⟨i, w⟩ := w; exact ⟨i, ih i h QD QR w⟩
  | exS k ih => intro h QD QR w; obtain ⟨i, w⟩ := w; exact ⟨i, ih i h QD QR w⟩
  | exR k ih => intro h QD QR w; obtain ⟨i, w⟩ := w; exact ⟨i, ih i h QD QR w⟩
  | exA k ih => intro h QD QR w; obtain ⟨i, w⟩ := w; exact ⟨i, ih i h QD QR w⟩
  | exY k ih => intro h QD QR w; obtain ⟨i, w⟩ := w; exact ⟨i, ih i h QD QR w⟩
  | row rows i cells k ih => intro h QD QR w; exact ⟨w.1, ih h QD QR w.2⟩
  | byte s i b k ih => intro h QD QR w; exact ⟨w.1, ih h QD QR w.2⟩
  | bytes rows s k ih => intro h QD QR w; exact ⟨w.1, ih h QD QR w.2⟩
  | prop p k ih => intro h QD QR w; exact ⟨w.1, ih h QD QR w.2⟩
  | call g args rm H r k ih => intro h QD QR w; exact ⟨w.1, ih h QD QR w.2⟩
  | alt t f iht ihf =>
    intro h QD QR w
    cases h with
    | b x y => exact w.imp (iht x QD QR) (ihf y QD QR)
    | k => exact w
    | n h => exact w
    | m h => exact w
    | l h => exact w
    | r h => exact w
    | L h => exact w
    | R h => exact w
  | stage t k ih _ => intro h QD QR w; exact ih h _ QR w
  | loop f b x s k ih => intro h QD QR w; exact w
theorem wp_eqp {t t' : KT} {d : Nat} {QD : List (St → Prop)} {QR : CRes → Prop} (h : t.prune (PH.of d) = t') (w : t'.wp P cfg call QD QR) : t.wp P cfg call QD QR := prune_wp t _ _ _ (h ▸ w)
end
end Go.Eng
end

section
/- TREES, printed by kt.py out of z13.txt -/
open Go Go.Eng
namespace Go.Proofs
set_option linter.unusedVariables false
set_option maxRecDepth 100000
@[irreducible] noncomputable def X_Pat (s : ByteArray) : KT := ktc7 f_parsecore_Pat [vS s] []
theorem X_Pat_eq (s : ByteArray) : (ktc7 f_parsecore_Pat [vS s] []).prune (PH.of 1328938245514359895291371896478329973) =
 (.exR fun l =>
 (.exI fun i =>
 (.exI fun i1 =>
 (.call f_lex_Lex [(vS (s))] .none [] ⟨(.ret (.tuple [(.slice 4 (l) .no), (vI (i)), (vI (i1))])), .none, []⟩
 (.branch (i1 != 0)
 (.need (i1 != 0)
 (.ret ⟨(.ret (.tuple [(.agg [(vI (0)), (vS ((⟨#[]⟩ : ByteArray))), (.slice 1 [] .no), (vI (0)), (.slice 5 [] .no)]), (vI (i)), (vI (i1))])), .none, []⟩))
 (.alt
 (.exI fun i2 =>
 (.exS fun s1 =>
 (.exR fun l1 =>
 (.exI fun i3 =>
 (.exR fun l2 =>
 (.exR fun l3 =>
 (.exI fun i4 =>
 (.exI fun i5 =>
 (.exI fun i6 =>
 (.exI fun i7 =>
 (.call f_parsecore_Reader_Pat [(.ptr 0 0)] .none [[(.slice 4 (l) .no), (vI ((↑s.size : Int))), (vI (0)), (vI (0)), (vI (0))]] ⟨(.ret (.agg [(vI (i2)), (vS (s1)), (.slice 1 (l1) .no), (vI (i3)), (.slice 5 (l2) .no)])), .none, [[(.slice 4 (l3) .no), (vI (i4)), (vI (i5)), (vI (i6)), (vI (i7))]]⟩
 (.branch (i5 != 0)
 (.need (i5 != 0)
 (.ret ⟨(.ret (.tuple [(.agg [(vI (0)), (vS ((⟨#[]⟩ : ByteArray))), (.slice 1 [] .no), (vI (0)), (.slice 5 [] .no)]), (vI (i6)), (vI (i5))])), .none, []⟩))
 (.branch (decide ((↑l3.length : Int) > 0))
 (.exI fun i8 =>
 (.exS fun s2 =>
 (.exI fun i9 =>
 (.exI fun i10 =>
 (.row (l3) (0) [(vI (i8)), (vS (s2)), (vI (i9)), (vI (i10))]
 (.ret ⟨(.ret (.tuple [(.agg [(vI (0)), (vS ((⟨#[]⟩ : ByteArray))), (.slice 1 [] .no), (vI (0)), (.slice 5 [] .no)]), (vI (i10)), (vI (11))])), .none, []⟩))))))
 (.exI fun i8 =>
 (.call f_tree_RightPat [(.agg [(vI (i2)), (vS (s1)), (.slice 1 (l1) .no), (vI (i3)), (.slice 5 (l2) .no)])] .none [[(.slice 4 (l3) .no), (vI (i4)), (vI (i5)), (vI (i6)), (vI (i7))]] ⟨(.ret (vI (i8))), .none, [[(.slice 4 (l3) .no), (vI (i4)), (vI (i5)), (vI (i6)), (vI (i7))]]⟩
 (.branch (i8 == 4)
 (.ret ⟨(.ret (.tuple [(.agg [(vI (0)), (vS ((⟨#[]⟩ : ByteArray))), (.slice 1 [] .no), (vI (0)), (.slice 5 [] .no)]), (vI (0)), (vI (4))])), .none, []⟩)
 (.need (lowss 0 (l1))
 (.need (lowss 0 (l2))
 (.need (lowss 0 (l1))
 (.need (lowss 0 (l2))
 (.ret ⟨(.ret (.tuple [(.agg [(vI (i2)), (vS (s1)), (.slice 1 (l1) .no), (vI (i3)), (.slice 5 (l2) .no)]), (vI (0)), (vI (0))])), .none, []⟩)))))))))))))))))))))
 (.exR fun l1 =>
 (.exI fun i2 =>
 (.exI fun i3 =>
 (.exI fun i4 =>
 (.exI fun i5 =>
 (.call f_parsecore_Reader_Pat [(.ptr 0 0)] .none [[(.slice 4 (l) .no), (vI ((↑s.size : Int))), (vI (0)), (vI (0)), (vI (0))]] ⟨(.panic (.iface y_parsecore_failure (.agg []))), .none, [[(.slice 4 (l1) .no), (vI (i2)), (vI (i3)), (vI (i4)), (vI (i5))]]⟩
 (.ret ⟨(.panic (.iface y_parsecore_failure (.agg []))), .none, []⟩))))))))))))) := by kernel_rfl
@[irreducible] noncomputable def X_rPatS (s : ByteArray) : KT := ktc7 f_waferref05_Pat [vS s] []
theorem X_rPatS_eq (s : ByteArray) : (ktc7 f_waferref05_Pat [vS s] []).prune (PH.of 25831029826299746610293) =
 (.exR fun l =>
 (.exI fun i =>
 (.exI fun i1 =>
 (.call f_waferref03_Lex [(vS (s))] .none [] ⟨(.ret (.tuple [(.slice 4 (l) .no), (vI (i)), (vI (i1))])), .none, []⟩
 (.branch (i1 != 0)
 (.need (i1 != 0)
 (.ret ⟨(.ret (.tuple [(.agg [(vI (0)), (vS ((⟨#[]⟩ : ByteArray))), (.slice 1 [] .no), (vI (0)), (.slice 5 [] .no)]), (vI (i)), (vI (i1))])), .none, []⟩))
 (.exI fun i2 =>
 (.exS fun s1 =>
 (.exR fun l1 =>
 (.exI fun i3 =>
 (.exR fun l2 =>
 (.exR fun l3 =>
 (.exI fun i4 =>
 (.exI fun i5 =>
 (.exI fun i6 =>
 (.exI fun i7 =>
 (.call f_waferref05_Reader_Pat [(.ptr 0 0)] .none [[(.slice 4 (l) .no), (vI ((↑s.size : Int))), (vI (0)), (vI (0)), (vI (0))]] ⟨(.ret (.agg [(vI (i2)), (vS (s1)), (.slice 1 (l1) .no), (vI (i3)), (.slice 5 (l2) .no)])), .none, [[(.slice 4 (l3) .no), (vI (i4)), (vI (i5)), (vI (i6)), (vI (i7))]]⟩
 (.branch (i6 != 0)
 (.stage
 (.branch (i6 == 0)
 (.exI fun i8 =>
 (.call f_waferref04_RightPat [(.agg [(vI (i2)), (vS (s1)), (.slice 1 (l1) .no), (vI (i3)), (.slice 5 (l2) .no)])] .none [[(.slice 4 (l3) .no), (vI (i4)), (vI (i5)), (vI (i6)), (vI (i7))]] ⟨(.ret (vI (i8))), .none, [[(.slice 4 (l3) .no), (vI (i4)), (vI (i5)), (vI (i6)), (vI (i7))]]⟩
 (.branch (i8 == 4)
 (.done ⟨tm2 40 [(2, (.lp 2 0 0)), (6, (vI (i7))), (7, (vI (4))), (8, (.lp 8 0 0))], lm2 40 [(2, (0, [(vI (0)), (vS ((⟨#[]⟩ : ByteArray))), (.slice 0 [] .full), (vI (0)), (.slice 0 [] .full)])), (8, (0, [(vI (i2)), (vS (s1)), (.slice 1 (l1) .no), (vI (i3)), (.slice 5 (l2) .no)]))], ⟨[[(.slice 4 (l3) .no), (vI (i4)), (vI (i5)), (vI (i6)), (vI (i7))]], [], .none, 0⟩⟩)
 (.done ⟨tm2 40 [(2, (.lp 2 0 0)), (6, (vI (i7))), (7, (vI (i6))), (8, (.lp 8 0 0))], lm2 40 [(2, (0, [(vI (0)), (vS ((⟨#[]⟩ : ByteArray))), (.slice 0 [] .full), (vI (0)), (.slice 0 [] .full)])), (8, (0, [(vI (i2)), (vS (s1)), (.slice 1 (l1) .no), (vI (i3)), (.slice 5 (l2) .no)]))], ⟨[[(.slice 4 (l3) .no), (vI (i4)), (vI (i5)), (vI (i6)), (vI (i7))]], [], .none, 0⟩⟩))))
 (.done ⟨tm2 40 [(2, (.lp 2 0 0)), (6, (vI (i7))), (7, (vI (i6))), (8, (.lp 8 0 0))], lm2 40 [(2, (0, [(vI (0)), (vS ((⟨#[]⟩ : ByteArray))), (.slice 0 [] .full), (vI (0)), (.slice 0 [] .full)])), (8, (0, [(vI (i2)), (vS (s1)), (.slice 1 (l1) .no), (vI (i3)), (.slice 5 (l2) .no)]))], ⟨[[(.slice 4 (l3) .no), (vI (i4)), (vI (i5)), (vI (i6)), (vI (i7))]], [], .none, 0⟩⟩))
 (((((((((((((((X_rPatS s).R l).I i).I i1).T.F.T.F.I i2).S s1).R l1).I i3).R l2).R l3).I i4).I i5).I i6).I i7).T.F.T.T.K))
 (.branch (decide (i5 < (↑l3.length : Int)))
 (.need (decide (i5 < (↑l3.length : Int)))
 (.exI fun i8 =>
 (.exS fun s2 =>
 (.exI fun i9 =>
 (.exI fun i10 =>
 (.row (l3) (i5) [(vI (i8)), (vS (s2)), (vI (i9)), (vI (i10))]
 (.stage
 (.done ⟨tm2 40 [(2, (.lp 2 0 0)), (6, (vI (i10))), (7, (vI (11))), (8, (.lp 8 0 0))], lm2 40 [(2, (0, [(vI (0)), (vS ((⟨#[]⟩ : ByteArray))), (.slice 0 [] .full), (vI (0)), (.slice 0 [] .full)])), (8, (0, [(vI (i2)), (vS (s1)), (.slice 1 (l1) .no), (vI (i3)), (.slice 5 (l2) .no)]))], ⟨[[(.slice 4 (l3) .no), (vI (i4)), (vI (i5)), (vI (i6)), (vI (i7))]], [], .none, 0⟩⟩)
 (((((((((((((((((((X_rPatS s).R l).I i).I i1).T.F.T.F.I i2).S s1).R l1).I i3).R l2).R l3).I i4).I i5).I i6).I i7).T.F.F.T.T.I i8).S s2).I i9).I i10).T.T.T.K))))))))
 (.stage
 (.exI fun i8 =>
 (.call f_waferref04_RightPat [(.agg [(vI (i2)), (vS (s1)), (.slice 1 (l1) .no), (vI (i3)), (.slice 5 (l2) .no)])] .none [[(.slice 4 (l3) .no), (vI (i4)), (vI (i5)), (vI (i6)), (vI (i7))]] ⟨(.ret (vI (i8))), .none, [[(.slice 4 (l3) .no), (vI (i4)), (vI (i5)), (vI (i6)), (vI (i7))]]⟩
 (.branch (i8 == 4)
 (.done ⟨tm2 40 [(2, (.lp 2 0 0)), (6, (vI (0))), (7, (vI (4))), (8, (.lp 8 0 0))], lm2 40 [(2, (0, [(vI (0)), (vS ((⟨#[]⟩ : ByteArray))), (.slice 0 [] .full), (vI (0)), (.slice 0 [] .full)])), (8, (0, [(vI (i2)), (vS (s1)), (.slice 1 (l1) .no), (vI (i3)), (.slice 5 (l2) .no)]))], ⟨[[(.slice 4 (l3) .no), (vI (i4)), (vI (i5)), (vI (i6)), (vI (i7))]], [], .none, 0⟩⟩)
 (.done ⟨tm2 40 [(2, (.lp 2 0 0)), (6, (vI (0))), (7, (vI (0))), (8, (.lp 8 0 0))], lm2 40 [(2, (0, [(vI (0)), (vS ((⟨#[]⟩ : ByteArray))), (.slice 0 [] .full), (vI (0)), (.slice 0 [] .full)])), (8, (0, [(vI (i2)), (vS (s1)), (.slice 1 (l1) .no), (vI (i3)), (.slice 5 (l2) .no)]))], ⟨[[(.slice 4 (l3) .no), (vI (i4)), (vI (i5)), (vI (i6)), (vI (i7))]], [], .none, 0⟩⟩))))
 (((((((((((((((X_rPatS s).R l).I i).I i1).T.F.T.F.I i2).S s1).R l1).I i3).R l2).R l3).I i4).I i5).I i6).I i7).T.F.F.F.T.K)))))))))))))))))))) := by kernel_rfl
@[irreducible] noncomputable def X_rPatSs3 (s : ByteArray) (l : List (List AV)) (i : Int) (i1 : Int) (i2 : Int) (s1 : ByteArray) (l1 : List (List AV)) (i3 : Int) (l2 : List (List AV)) (l3 : List (List AV)) (i4 : Int) (i5 : Int) (i6 : Int) (i7 : Int) (q3x0 : Int) : KT := ((((((((((((((X_rPatS s).R l).I i).I i1).T.F.T.F.I i2).S s1).R l1).I i3).R l2).R l3).I i4).I i5).I i6).I i7).T.F.F.F.T.K ⟨tm2 40 [(2, (.lp 2 0 0)), (6, (vI (0))), (7, (vI (q3x0))), (8, (.lp 8 0 0))], lm2 40 [(2, (0, [(vI (0)), (vS ((⟨#[]⟩ : ByteArray))), (.slice 0 [] .full), (vI (0)), (.slice 0 [] .full)])), (8, (0, [(vI (i2)), (vS (s1)), (.slice 1 (l1) .no), (vI (i3)), (.slice 5 (l2) .no)]))], ⟨[[(.slice 4 (l3) .no), (vI (i4)), (vI (i5)), (vI (i6)), (vI (i7))]], [], .none, 0⟩⟩
theorem X_rPatSs3_eq (s : ByteArray) (l : List (List AV)) (i : Int) (i1 : Int) (i2 : Int) (s1 : ByteArray) (l1 : List (List AV)) (i3 : Int) (l2 : List (List AV)) (l3 : List (List AV)) (i4 : Int) (i5 : Int) (i6 : Int) (i7 : Int) (q3x0 : Int) : (((((((((((((((X_rPatS s).R l).I i).I i1).T.F.T.F.I i2).S s1).R l1).I i3).R l2).R l3).I i4).I i5).I i6).I i7).T.F.F.F.T.K ⟨tm2 40 [(2, (.lp 2 0 0)), (6, (vI (0))), (7, (vI (q3x0))), (8, (.lp 8 0 0))], lm2 40 [(2, (0, [(vI (0)), (vS ((⟨#[]⟩ : ByteArray))), (.slice 0 [] .full), (vI (0)), (.slice 0 [] .full)])), (8, (0, [(vI (i2)), (vS (s1)), (.slice 1 (l1) .no), (vI (i3)), (.slice 5 (l2) .no)]))], ⟨[[(.slice 4 (l3) .no), (vI (i4)), (vI (i5)), (vI (i6)), (vI (i7))]], [], .none, 0⟩⟩).prune (PH.of 258485) =
 (.branch (q3x0 != 0)
 (.ret ⟨(.ret (.tuple [(.agg [(vI (0)), (vS ((⟨#[]⟩ : ByteArray))), (.slice 1 [] .no), (vI (0)), (.slice 5 [] .no)]), (vI (0)), (vI (q3x0))])), .none, []⟩)
 (.need (lowss 0 (l1))
 (.need (lowss 0 (l2))
 (.ret ⟨(.ret (.tuple [(.agg [(vI (i2)), (vS (s1)), (.slice 1 (l1) .no), (vI (i3)), (.slice 5 (l2) .no)]), (vI (0)), (vI (0))])), .none, []⟩)))) := by kernel_rfl
-- STAGE X_rPatSs3: told for any #[q3x0]
theorem X_rPatSs2_eq (s : ByteArray) (l : List (List AV)) (i : Int) (i1 : Int) (i2 : Int) (s1 : ByteArray) (l1 : List (List AV)) (i3 : Int) (l2 : List (List AV)) (l3 : List (List AV)) (i4 : Int) (i5 : Int) (i6 : Int) (i7 : Int) (i8 : Int) (s2 : ByteArray) (i9 : Int) (i10 : Int) : (((((((((((((((((((X_rPatS s).R l).I i).I i1).T.F.T.F.I i2).S s1).R l1).I i3).R l2).R l3).I i4).I i5).I i6).I i7).T.F.F.T.T.I i8).S s2).I i9).I i10).T.T.T.K ⟨tm2 40 [(2, (.lp 2 0 0)), (6, (vI (i10))), (7, (vI (11))), (8, (.lp 8 0 0))], lm2 40 [(2, (0, [(vI (0)), (vS ((⟨#[]⟩ : ByteArray))), (.slice 0 [] .full), (vI (0)), (.slice 0 [] .full)])), (8, (0, [(vI (i2)), (vS (s1)), (.slice 1 (l1) .no), (vI (i3)), (.slice 5 (l2) .no)]))], ⟨[[(.slice 4 (l3) .no), (vI (i4)), (vI (i5)), (vI (i6)), (vI (i7))]], [], .none, 0⟩⟩).prune (PH.of 435) =
 (.ret ⟨(.ret (.tuple [(.agg [(vI (0)), (vS ((⟨#[]⟩ : ByteArray))), (.slice 1 [] .no), (vI (0)), (.slice 5 [] .no)]), (vI (i10)), (vI (11))])), .none, []⟩) := by kernel_rfl
@[irreducible] noncomputable def X_rPatSs1 (s : ByteArray) (l : List (List AV)) (i : Int) (i1 : Int) (i2 : Int) (s1 : ByteArray) (l1 : List (List AV)) (i3 : Int) (l2 : List (List AV)) (l3 : List (List AV)) (i4 : Int) (i5 : Int) (i6 : Int) (i7 : Int) (q1x0 : Int) : KT := ((((((((((((((X_rPatS s).R l).I i).I i1).T.F.T.F.I i2).S s1).R l1).I i3).R l2).R l3).I i4).I i5).I i6).I i7).T.F.T.T.K ⟨tm2 40 [(2, (.lp 2 0 0)), (6, (vI (i7))), (7, (vI (q1x0))), (8, (.lp 8 0 0))], lm2 40 [(2, (0, [(vI (0)), (vS ((⟨#[]⟩ : ByteArray))), (.slice 0 [] .full), (vI (0)), (.slice 0 [] .full)])), (8, (0, [(vI (i2)), (vS (s1)), (.slice 1 (l1) .no), (vI (i3)), (.slice 5 (l2) .no)]))], ⟨[[(.slice 4 (l3) .no), (vI (i4)), (vI (i5)), (vI (i6)), (vI (i7))]], [], .none, 0⟩⟩
theorem X_rPatSs1_eq (s : ByteArray) (l : List (List AV)) (i : Int) (i1 : Int) (i2 : Int) (s1 : ByteArray) (l1 : List (List AV)) (i3 : Int) (l2 : List (List AV)) (l3 : List (List AV)) (i4 : Int) (i5 : Int) (i6 : Int) (i7 : Int) (q1x0 : Int) : (((((((((((((((X_rPatS s).R l).I i).I i1).T.F.T.F.I i2).S s1).R l1).I i3).R l2).R l3).I i4).I i5).I i6).I i7).T.F.T.T.K ⟨tm2 40 [(2, (.lp 2 0 0)), (6, (vI (i7))), (7, (vI (q1x0))), (8, (.lp 8 0 0))], lm2 40 [(2, (0, [(vI (0)), (vS ((⟨#[]⟩ : ByteArray))), (.slice 0 [] .full), (vI (0)), (.slice 0 [] .full)])), (8, (0, [(vI (i2)), (vS (s1)), (.slice 1 (l1) .no), (vI (i3)), (.slice 5 (l2) .no)]))], ⟨[[(.slice 4 (l3) .no), (vI (i4)), (vI (i5)), (vI (i6)), (vI (i7))]], [], .none, 0⟩⟩).prune (PH.of 258485) =
 (.branch (q1x0 != 0)
 (.ret ⟨(.ret (.tuple [(.agg [(vI (0)), (vS ((⟨#[]⟩ : ByteArray))), (.slice 1 [] .no), (vI (0)), (.slice 5 [] .no)]), (vI (i7)), (vI (q1x0))])), .none, []⟩)
 (.need (lowss 0 (l1))
 (.need (lowss 0 (l2))
 (.ret ⟨(.ret (.tuple [(.agg [(vI (i2)), (vS (s1)), (.slice 1 (l1) .no), (vI (i3)), (.slice 5 (l2) .no)]), (vI (0)), (vI (0))])), .none, []⟩)))) := by kernel_rfl
-- STAGE X_rPatSs1: told for any #[q1x0]
theorem X_ParsePats_eq (s : ByteArray) : (ktc7 f_waferlaw05_ParsePats [vS s] []).prune (PH.of 365) =
 (.exI fun i =>
 (.exS fun s1 =>
 (.exR fun l =>
 (.exI fun i1 =>
 (.exR fun l1 =>
 (.exI fun i2 =>
 (.exI fun i3 =>
 (.call f_parsecore_Pat [(vS (s))] .none [] ⟨(.ret (.tuple [(.agg [(vI (i)), (vS (s1)), (.slice 1 (l) .no), (vI (i1)), (.slice 5 (l1) .no)]), (vI (i2)), (vI (i3))])), .none, []⟩
 (.exI fun i4 =>
 (.exS fun s2 =>
 (.exR fun l2 =>
 (.exI fun i5 =>
 (.exR fun l3 =>
 (.exI fun i6 =>
 (.exI fun i7 =>
 (.call f_waferref05_Pat [(vS (s))] .none [] ⟨(.ret (.tuple [(.agg [(vI (i4)), (vS (s2)), (.slice 1 (l2) .no), (vI (i5)), (.slice 5 (l3) .no)]), (vI (i6)), (vI (i7))])), .none, []⟩
 (.branch (i2 == i6)
 (.branch (i3 == i7)
 (.exB fun b =>
 (.call f_waferref04_SamePat [(.agg [(vI (i)), (vS (s1)), (.slice 1 (l) .no), (vI (i1)), (.slice 5 (l1) .no)]), (.agg [(vI (i4)), (vS (s2)), (.slice 1 (l2) .no), (vI (i5)), (.slice 5 (l3) .no)])] .none [] ⟨(.ret (vB (b))), .none, []⟩
 (.branch (b)
 (.exB fun b1 =>
 (.call f_waferlaw05_alive [] .none [] ⟨(.ret (vB (b1))), .none, []⟩
 (.ret ⟨(.ret (vB (b1))), .none, []⟩)))
 (.ret ⟨(.ret (vB false)), .none, []⟩))))
 (.ret ⟨(.ret (vB false)), .none, []⟩))
 (.ret ⟨(.ret (vB false)), .none, []⟩)))))))))))))))))) := by kernel_rfl
end Go.Proofs
end
