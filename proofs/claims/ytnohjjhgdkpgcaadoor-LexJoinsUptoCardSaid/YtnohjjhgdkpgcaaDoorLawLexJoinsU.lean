/- The law LexJoins ('LexJoinsUptoCardSaid'): for every input of bulk at most 1048576 it returns true. -/
import Derived.Test.YtnohjjhgdkpgcaaDoorCards
import Derived.Test.YtnohjjhgdkpgcaaDoorTie
import Derived.Test.YtnohjjhgdkpgcaaDoorS5
import Derived.Test.YtnohjjhgdkpgcaaDoorL13
import Derived.WalkKit
import Derived.ProofKit
import Derived.OpenShut
import Derived.ShutString
import Derived.ChangeOld
import Derived.Below
import Derived.SizedLaws
import Derived.JoinedCond
import Derived.Deep.DeepHandedRow
import Derived.Lib.LaidTab
import Derived.Lay
import Derived.LaidOnce
import Derived.SevenTiedAt
namespace Go.Proofs.YtnohjjhgdkpgcaaDoor.lexJoinsU
open Go.ChangeShapes Go.WideShapes Go.ChangeAt Go.RowKit Go.Eng
open Go.ChangeMaps (open_string shut_string)
set_option linter.unusedVariables false
set_option linter.unusedSimpArgs false
theorem own : ownKnob Tryd.prog.godebug = none := by kernel_rfl
theorem laidOut : laidOutB Tryd.prog = true := by kernel_rfl
theorem plain0 : plainTys Tryd.prog [26, 32, 3, 9, 2] = true := by kernel_rfl
mutual
theorem ub {H : Type} : ∀ d : DataW H, Rows.uptoBulk d = bulkD d
  | .lit (.string _) => rfl
  | .lit (.bool _) => rfl
  | .lit (.int _ _) => rfl
  | .lit (.float _ _) => rfl
  | .lit .nil => rfl
  | .nil => rfl
  | .ptr d => by rw [Rows.uptoBulk, bulkD, ub d]
  | .slice e s => by rw [Rows.uptoBulk, bulkD, ubs e, ubs s]
  | .agg ps => by rw [Rows.uptoBulk, bulkD, ubs ps]
  | .iface _ d => by rw [Rows.uptoBulk, bulkD, ub d]
  | .map es => by rw [Rows.uptoBulk, bulkD, ube es]
  | .held _ => rfl
theorem ubs {H : Type} : ∀ l : List (DataW H), Rows.uptoBulkAll l = bulkDs l
  | [] => rfl
  | d :: r => by rw [Rows.uptoBulkAll, bulkDs, ub d, ubs r]
theorem ube {H : Type} : ∀ l : List (Lit × DataW H), Rows.uptoBulkEntries l = bulkDe l
  | [] => rfl
  | x :: r => by rw [Rows.uptoBulkEntries, bulkDe, ubx x, ube r]
theorem ubx {H : Type} : ∀ x : Lit × DataW H, Rows.uptoBulkEntry x = bulkDx x
  | (.string _, d) => by rw [Rows.uptoBulkEntry, bulkDx, ub d]
  | (.bool _, d) => by simp only [Rows.uptoBulkEntry, bulkDx, ub d]
  | (.int _ _, d) => by simp only [Rows.uptoBulkEntry, bulkDx, ub d]
  | (.float _ _, d) => by simp only [Rows.uptoBulkEntry, bulkDx, ub d]
  | (.nil, d) => by simp only [Rows.uptoBulkEntry, bulkDx, ub d]
end
set_option maxRecDepth 100000 in
theorem contract (H : Type) (enc : TypeId × Value → H) (W : World) (base : Nat) (args : Array Value) (ds gs : List (DataW H)) (before : List MemPlace)
    (hval : ∀ (j : Nat) t v, Tryd.f7.params[j]? = some t → args[j]? = some v → Value.okWide Tryd.prog W .any base t v)
    (hW : DataW.Whole enc Tryd.prog Tryd.f7.params.toList Rows.lexJoinsSpec.vars false W args.toList ds gs before) (hk : Rows.uptoSmall H (ds ++ gs) = true)
    (hL : laidMetH Tryd.prog Rows.lexJoinsUptoRow.laid W) :
    Calls Tryd.prog 7 args W fun e W' => ∃ v, e = .returned v ∧ Rows.lexJoinsSpec.post enc Tryd.prog Tryd.f7 false true false false W args v W' := by
  have hW' := hW
  obtain ⟨p, q, hA0, hV, rfl, hfz, hnd⟩ := hW
  have hA : DataW.TrodAll enc Tryd.prog W 0 (fun _ => true) true Tryd.f7.params.toList args.toList ds p := hA0
  rw [Tryd.params7] at hA hval
  obtain ⟨v0, vs0, d0, ds0, p0, q0, hargs, rfl, rfl, h0, r0⟩ := trodAll_cons hA
  obtain ⟨v1, vs1, d1, ds1, p1, q1, rfl, rfl, rfl, h1, r1⟩ := trodAll_cons r0
  obtain ⟨rfl, rfl, rfl⟩ := trodAll_nil r1
  obtain rfl : args = #[v0, v1] := by cases args; simp_all
  obtain ⟨rfl, rfl⟩ := trodVars_none hV
  have hb := of_decide_eq_true hk
  rw [List.append_nil, ubs] at hb
  simp only [bulkDs] at hb
  have k0 := h0
  have k1 := h1
  have lt0 : ∀ x ∈ p0, x.block < W.heap.size := by obtain ⟨m, hm⟩ := k0; exact DataW.trod_lt m _ _ _ hm
  have lt1 : ∀ x ∈ p1, x.block < W.heap.size := by obtain ⟨m, hm⟩ := k1; exact DataW.trod_lt m _ _ _ hm
  obtain ⟨B0, l0, C0, rfl⟩ := okWide_slice Tryd.underlying26 (hval 0 26 v0 rfl rfl)
  obtain ⟨B1, l1, C1, rfl⟩ := okWide_slice Tryd.underlying26 (hval 1 26 v1 rfl rfl)
  obtain ⟨n0, h0⟩ := h0
  obtain ⟨x0, a0, o0, t0, u0⟩ := Go.Eng.opens n0 26 _ _ h0 (ts := [26, 32, 3, 9, 2]) (by decide) plain0
  obtain ⟨y0, rfl, _, f0, _⟩ := t0.slice_inv Tryd.underlying26
  obtain ⟨n1, h1⟩ := h1
  obtain ⟨x1, a1, o1, t1, u1⟩ := Go.Eng.opens n1 26 _ _ h1 (ts := [26, 32, 3, 9, 2]) (by decide) plain0
  obtain ⟨y1, rfl, _, f1, _⟩ := t1.slice_inv Tryd.underlying26
  obtain ⟨H', law⟩ := lexJoins_row f0 f1 (Nat.le_trans (Nat.add_le_add u0 (Nat.add_le_add u1 (Nat.le_refl 0))) hb)
  clear hA0
  have hT := err_of_laid hL
  refine (evp_calls (cargs := #[.slice B0 l0 C0, .slice B1 l1 C1]) hT law (RepL.cons (v := _) a0 (RepL.cons (v := _) a1 .nil)) (fun a ha => by simp at ha; rcases ha with rfl | rfl <;> (intro sz rows e; cases e))).mono fun e W' ⟨he, bel⟩ => ?_
  subst he
  exact ⟨_, rfl, _, _, _, [], _, [], hW', trodAll_mk1 (shut_bool Tryd.underlying4 _), (trodAll_cons_mk (Below.trod laidOut (by kernel_rfl) (of_decide_eq_true (by kernel_rfl)) k0 bel lt0) (trodAll_cons_mk (Below.trod laidOut (by kernel_rfl) (of_decide_eq_true (by kernel_rfl)) k1 bel lt1) trodAll_mk0)), rfl, bel.frame _, fun h => by cases h⟩
theorem reads (os : Os) {H : Type} (enc : TypeId × Value → H) : ∃ places, DataW.whole enc Tryd.prog ((start os).forCall (fun _ _ => 0) ⟨#[], #[.slice none 0 0, .slice none 0 0], []⟩).memory Tryd.f7.params.toList Rows.lexJoinsSpec.vars false #[(.slice none 0 0 : Value), (.slice none 0 0 : Value)].toList 8 = some ([.nil, .nil], [], places) :=
  ⟨[], by kernel_rfl⟩
set_option maxRecDepth 100000 in
theorem okB (os : Os) : Input.okWideB Tryd.prog ((start os).forCall (fun _ _ => 0) ⟨#[], #[.slice none 0 0, .slice none 0 0], []⟩) 7 ⟨#[], #[.slice none 0 0, .slice none 0 0], []⟩ = true := by kernel_rfl
set_option maxRecDepth 100000 in
theorem lifted (os : Os) (started : os.Started) (H : Type) (enc : TypeId × Value → H) (F : Stop.Interp) :
    ReturnsInHanded {} Tryd.checked os 7 .any ((Rows.OpenSpec.upto Rows.lexJoinsSpec).preRow enc Tryd.prog Tryd.f7 Rows.lexJoinsUptoRow.domain false Rows.lexJoinsUptoRow.laid) (((Rows.OpenSpec.upto Rows.lexJoinsSpec).at F).post enc Tryd.prog Tryd.f7 false true false false) := by
  obtain ⟨places, hx⟩ := reads os enc
  refine returnsInHanded_of_row (C := Tryd.checked) (s := (Rows.OpenSpec.upto Rows.lexJoinsSpec)) own started (by kernel_rfl) Tryd.func7
    ⟨start os, fun _ _ => 0, ⟨#[], #[.slice none 0 0, .slice none 0 0], []⟩, start_os _, start_shaped os _,
      (Input.okWide_of_okWideB (base := 0) (okB os)).1, (Input.okWide_of_okWideB (okB os)).2,
      OpenSpec.preRow_of_cond 8 hx (by kernel_rfl) (fun k hk => by cases hk; kernel_rfl) (by kernel_rfl) (start_laid os _),
      by simp only [Assume.holds]; exact ⟨by simp, by simp, fun _ => Modest.zero, by simp, by simp⟩⟩ ?_
  intro W base args ds gs before hval hW _ hcond hsz hL _ _
  exact contract H enc W base args ds gs before hval hW (hcond _ rfl) hL
theorem said : Rows.LexJoinsUptoSaid :=
  OpenClaim.holds_of_cond 7 Tryd.f7 rfl rfl rfl rfl rfl rfl rfl ⟨rfl, rfl, rfl, rfl, rfl⟩ rfl rfl rfl rfl rfl (by kernel_rfl) Tryd.func7 (by kernel_rfl)
    (of_decide_eq_true (by kernel_rfl)) (by unfold Func.isWrapper; first | (rw [if_pos (by decide +kernel)]; kernel_rfl) | (rw [if_neg (by decide +kernel)]; exact ⟨rfl, rfl⟩))
    (fun os started H enc _ F => by rw [OpenClaim.pre_eq_preRow]; exact lifted os started H enc F)
theorem plain (f : FuncId) (fn : Func) (hf : Tryd.pinned.checked.prog.funcNamed "wafer/waferlaw03.LexJoins" = some f) (hfn : Tryd.pinned.checked.prog.funcs[f]? = some fn) :
    true = Tryd.pinned.checked.prog.looks [] ∧ ∀ (j : Nat) t, fn.params[j]? = some t → Tryd.pinned.checked.prog.wantsStandIn t = false := by
  obtain rfl : f = 7 := Option.some.inj ((show Tryd.prog.funcNamed "wafer/waferlaw03.LexJoins" = some 7 by kernel_rfl).symm.trans hf) |>.symm
  obtain rfl : fn = Tryd.f7 := (Option.some.inj (Tryd.func7.symm.trans hfn)).symm
  refine ⟨by kernel_rfl, fun j t ht => ?_⟩
  rw [Tryd.params7] at ht
  have hm : t ∈ [26, 26] := by simpa using Array.mem_of_getElem? ht
  have hall : ([26, 26].all fun u => !Tryd.prog.wantsStandIn u) = true := by kernel_rfl
  exact (show Tryd.prog.wantsStandIn t = false by simpa using List.all_eq_true.1 hall t hm)
theorem card : Rows.LexJoinsUptoCardSaid :=
  Claim7.holds_tied_plain_at .later [] _ _ _ _ said (fun _ h => by cases h) (by kernel_rfl) (fun _ h => by cases h) lexJoinsUpto_row_tie rfl ⟨rfl, rfl⟩ (by kernel_rfl) rfl plain (by kernel_rfl)
end Go.Proofs.YtnohjjhgdkpgcaaDoor.lexJoinsU
namespace Go.Proofs.YtnohjjhgdkpgcaaDoor
/-- The card, under a short name, for the claim. -/
theorem lexJoinsU_holds : Rows.LexJoinsUptoCardSaid := lexJoinsU.card
#print axioms lexJoinsU_holds
end Go.Proofs.YtnohjjhgdkpgcaaDoor

