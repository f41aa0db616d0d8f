/- TEXT: the contract of waferlaw01.alive holds (walked); what the engine tells the model's calls do -/
import Derived.Test.YtajjoaphfeamiaaT9
import Derived.Test.YtajjoaphfeamiaaTC
open Go Go.Eng
namespace Go.Proofs
open Go.RowKit
set_option linter.unusedVariables false
theorem psound {W : World} : PSound Pg (memOf W) gx where
  sound := by
    intro f e hf args v hv I μ w cargs hI himm hr
    unfold gx extL at hf
    simp only [List.lookup] at hf
    split at hf
    · rename_i hb
      injection hf with hf; subst hf
      rw [beq_iff_eq] at hb; subst hb
      unfold xTrue at hv
      split at hv
      · injection hv with hv; subst hv
        cases hr
        exact (alive_any w).mono fun e' w' ⟨h1, h2⟩ => ⟨_, h1, .val _ .nil, (fun _ _ h => by cases h), h2⟩
      · cases hv
    · cases hf
  ren := by
    intro f e hf args v hv ρ
    unfold gx extL at hf
    simp only [List.lookup] at hf
    split at hf
    · injection hf with hf; subst hf
      unfold xTrue at hv
      split at hv
      · injection hv with hv; subst hv; rfl
      · cases hv
    · cases hf
theorem body_of {i : Nat} (h : ((Pg.funcs[i]?).bind (·.body)).isSome = true) : ∃ (fn : Func) (c : Code), Pg.funcs[i]? = some fn ∧ fn.body = some c := by
  cases hf : Pg.funcs[i]? with
  | none => rw [hf] at h; cases h
  | some fn =>
    rw [hf] at h
    cases hb : fn.body with
    | none => simp [hb] at h
    | some c => exact ⟨fn, c, rfl, hb⟩
theorem extb : ∀ (f : FuncId) e, gx.ext f = some e → ∃ (fn : Func) (c : Code), Pg.funcs[f]? = some fn ∧ fn.body = some c := by
  intro f e h
  unfold PExt.ext gx extL at h
  simp only [List.lookup] at h
  split at h
  · rename_i hb; rw [beq_iff_eq] at hb; subst hb; exact body_of (by kernel_rfl)
  · cases h
theorem hng0 : (Pg.funcs.toList.all fun fn => !(fn.name == "runtime.NumGoroutine")) = true := by kernel_rfl
theorem mix0 : Pg.follows .mixedOrders = true := by kernel_rfl
theorem evp_calls {f : FuncId} {args : List AV} {W : World} {cargs : Array Value} {v : Value} {m : RM} {H' : Heap} (h : evp f args .none [] = some ⟨.ret (.val v), m, H'⟩)
    (hr : RepL (memOf W) [] cargs.toList args) (hno : ∀ a ∈ args, NoOwn a) : Calls Pg f cargs W fun e W' => e = .returned v ∧ Below W.heap.size W W' :=
  ev_calls mix0 hng0 h psound.ext extb (LeM.refl _) hr hno
end Go.Proofs
