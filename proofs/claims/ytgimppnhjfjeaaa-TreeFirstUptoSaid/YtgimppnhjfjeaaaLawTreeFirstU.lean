/- The law TreeFirst ('TreeFirstUptoSaid'): for every input of bulk at most 1048576 it returns true. -/
import Derived.Test.YtgimppnhjfjeaaaRows
import Derived.Test.YtgimppnhjfjeaaaW8
import Derived.Test.YtgimppnhjfjeaaaE24
import Derived.WalkKit
import Derived.ProofKit
import Derived.OpenShut
import Derived.ShutString
import Derived.ChangeOld
import Derived.Below
import Derived.SizedLaws
import Derived.JoinedCond
namespace Go.Proofs.Ytgimppnhjfjeaaa.treeFirstU
open Go.ChangeShapes Go.WideShapes Go.ChangeAt Go.RowKit Go.Eng
open Go.ChangeMaps (open_string shut_string)
set_option linter.unusedVariables false
set_option linter.unusedSimpArgs false
theorem own : ownKnob Try.prog.godebug = none := by kernel_rfl
theorem laidOut : laidOutB Try.prog = true := by kernel_rfl
theorem mixed : Try.prog.follows .mixedOrders = true := by kernel_rfl
theorem noNum : (Try.prog.funcs.toList.all fun fn => !(fn.name == "runtime.NumGoroutine")) = true := by kernel_rfl
theorem plain : plainTys Try.prog [33, 53, 3, 9, 22, 26, 28, 45, 47, 2, 23, 25, 49, 70, 50, 74, 51, 79, 77, 111] = true := by kernel_rfl
mutual
theorem ub {H : Type} : ∀ d : DataW H, Rows.uptoBulk d = bulkD d
  | .lit (.string _) => rfl
  | .lit (.bool _) => rfl
  | .lit (.int _ _) => rfl
  | .lit (.float _ _) => rfl
  | .lit .nil => rfl
  | .nil => rfl
  | .ptr d => by rw [Rows.uptoBulk, bulkD, ub d]
  | .slice e s => by rw [Rows.uptoBulk, bulkD, ubs e, ubs s]
  | .agg ps => by rw [Rows.uptoBulk, bulkD, ubs ps]
  | .iface _ d => by rw [Rows.uptoBulk, bulkD, ub d]
  | .map es => by rw [Rows.uptoBulk, bulkD, ube es]
  | .held _ => rfl
theorem ubs {H : Type} : ∀ l : List (DataW H), Rows.uptoBulkAll l = bulkDs l
  | [] => rfl
  | d :: r => by rw [Rows.uptoBulkAll, bulkDs, ub d, ubs r]
theorem ube {H : Type} : ∀ l : List (Lit × DataW H), Rows.uptoBulkEntries l = bulkDe l
  | [] => rfl
  | x :: r => by rw [Rows.uptoBulkEntries, bulkDe, ubx x, ube r]
theorem ubx {H : Type} : ∀ x : Lit × DataW H, Rows.uptoBulkEntry x = bulkDx x
  | (.string _, d) => by rw [Rows.uptoBulkEntry, bulkDx, ub d]
  | (.bool _, d) => by simp only [Rows.uptoBulkEntry, bulkDx, ub d]
  | (.int _ _, d) => by simp only [Rows.uptoBulkEntry, bulkDx, ub d]
  | (.float _ _, d) => by simp only [Rows.uptoBulkEntry, bulkDx, ub d]
  | (.nil, d) => by simp only [Rows.uptoBulkEntry, bulkDx, ub d]
end
set_option maxRecDepth 100000 in
theorem contract (H : Type) (enc : TypeId × Value → H) (W : World) (base : Nat) (args : Array Value) (ds gs : List (DataW H)) (before : List MemPlace)
    (hval : ∀ (j : Nat) t v, Try.f6.params[j]? = some t → args[j]? = some v → Value.okWide Try.prog W .any base t v)
    (hW : DataW.Whole enc Try.prog Try.f6.params.toList Rows.treeFirstSpec.vars false W args.toList ds gs before) (hk : Rows.uptoSmall H (ds ++ gs) = true) :
    Calls Try.prog 6 args W fun e W' => ∃ v, e = .returned v ∧ Rows.treeFirstSpec.post enc Try.prog Try.f6 false true false false W args v W' := by
  have hW' := hW
  obtain ⟨p, q, hA0, hV, rfl, hfz, hnd⟩ := hW
  have hA : DataW.TrodAll enc Try.prog W 0 (fun _ => true) true Try.f6.params.toList args.toList ds p := hA0
  rw [Try.params6] at hA hval
  obtain ⟨v0, vs0, d0, ds0, p0, q0, hargs, rfl, rfl, h0, r0⟩ := trodAll_cons hA
  obtain ⟨v1, vs1, d1, ds1, p1, q1, rfl, rfl, rfl, h1, r1⟩ := trodAll_cons r0
  obtain ⟨rfl, rfl, rfl⟩ := trodAll_nil r1
  obtain rfl : args = #[v0, v1] := by cases args; simp_all
  obtain ⟨rfl, rfl⟩ := trodVars_none hV
  have hb := of_decide_eq_true hk
  rw [List.append_nil, ubs] at hb
  simp only [bulkDs] at hb
  have k0 := h0
  have k1 := h1
  have lt0 : ∀ x ∈ p0, x.block < W.heap.size := by obtain ⟨m, hm⟩ := k0; exact DataW.trod_lt m _ _ _ hm
  have lt1 : ∀ x ∈ p1, x.block < W.heap.size := by obtain ⟨m, hm⟩ := k1; exact DataW.trod_lt m _ _ _ hm
  obtain ⟨B0, l0, C0, rfl⟩ := okWide_slice Try.underlying33 (hval 0 33 v0 rfl rfl)
  obtain ⟨B1, l1, C1, rfl⟩ := okWide_slice Try.underlying33 (hval 1 33 v1 rfl rfl)
  obtain ⟨n0, h0⟩ := h0
  obtain ⟨x0, a0, o0, t0, u0⟩ := opens n0 33 _ _ h0 (ts := [33, 53, 3, 9, 22, 26, 28, 45, 47, 2, 23, 25, 49, 70, 50, 74, 51, 79, 77, 111]) (by decide) plain
  obtain ⟨y0, rfl, _, f0, _⟩ := t0.slice_inv Try.underlying33
  obtain ⟨n1, h1⟩ := h1
  obtain ⟨x1, a1, o1, t1, u1⟩ := opens n1 33 _ _ h1 (ts := [33, 53, 3, 9, 22, 26, 28, 45, 47, 2, 23, 25, 49, 70, 50, 74, 51, 79, 77, 111]) (by decide) plain
  obtain ⟨y1, rfl, _, f1, _⟩ := t1.slice_inv Try.underlying33
  obtain ⟨H', law⟩ := treeFirst_row f0 f1 (Nat.le_trans (Nat.add_le_add u0 (Nat.add_le_add u1 (Nat.le_refl 0))) hb)
  clear hA0
  refine (ev_calls (cargs := #[.slice B0 l0 C0, .slice B1 l1 C1]) mixed noNum law (RepL.cons (v := _) a0 (RepL.cons (v := _) a1 .nil)) (fun a ha => by simp at ha; rcases ha with rfl | rfl <;> (intro sz rows e; cases e))).mono fun e W' ⟨he, bel⟩ => ?_
  subst he
  exact ⟨_, rfl, _, _, _, [], _, [], hW', trodAll_mk1 (shut_bool Try.underlying4 _), (trodAll_cons_mk (Below.trod laidOut (by kernel_rfl) (of_decide_eq_true (by kernel_rfl)) k0 bel lt0) (trodAll_cons_mk (Below.trod laidOut (by kernel_rfl) (of_decide_eq_true (by kernel_rfl)) k1 bel lt1) trodAll_mk0)), rfl, bel.frame _, fun h => by cases h⟩
set_option maxRecDepth 100000 in
theorem lifted (os : Os) (started : os.Started) (H : Type) (enc : TypeId × Value → H) (F : Stop.Interp) :
    ReturnsInHanded {} Try.checked os 6 .any ((Rows.OpenSpec.upto Rows.treeFirstSpec).pre6 enc Try.prog Try.f6 Rows.treeFirstUptoRow.domain false) (((Rows.OpenSpec.upto Rows.treeFirstSpec).at F).post enc Try.prog Try.f6 false true false false) := by
  refine returnsInHanded_of_cond (C := Try.checked) (s := Rows.OpenSpec.upto Rows.treeFirstSpec) (k := Rows.uptoSmall) rfl own started (by kernel_rfl) Try.func6
    (OpenSpec.witness (enc := enc) (C := Try.checked) (s := Rows.OpenSpec.upto Rows.treeFirstSpec) (k := Rows.uptoSmall) rfl false ⟨#[], #[.slice none 0 0, .slice none 0 0], []⟩ 8 (by kernel_rfl) (by kernel_rfl) (by kernel_rfl)
      (x := ([.nil, .nil], [], [])) (by kernel_rfl) rfl (by kernel_rfl)) ?_
  intro W base args ds gs before hval hW _ hk _
  exact contract H enc W base args ds gs before hval hW hk
theorem proved : Rows.TreeFirstUptoSaid :=
  OpenClaim.holds_of_cond 6 Try.f6 rfl rfl rfl rfl rfl rfl rfl ⟨rfl, rfl, rfl, rfl, rfl⟩ rfl rfl rfl rfl rfl (by kernel_rfl) Try.func6 (by kernel_rfl)
    (of_decide_eq_true (by kernel_rfl)) (by unfold Func.isWrapper; first | (rw [if_pos (by decide +kernel)]; kernel_rfl) | (rw [if_neg (by decide +kernel)]; exact ⟨rfl, rfl⟩))
    (fun os started H enc _ F => lifted os started H enc F)
end Go.Proofs.Ytgimppnhjfjeaaa.treeFirstU
namespace Go.Proofs.Ytgimppnhjfjeaaa
/-- The row, under a short name, for the claim. -/
theorem treeFirstU_holds : Rows.TreeFirstUptoSaid := treeFirstU.proved
#print axioms treeFirstU_holds
end Go.Proofs.Ytgimppnhjfjeaaa
