/-
  THE ENGINE, part 24: from what the interpreter says of a function to what the model's call does.
-/
import Derived.Test.YtnohjjhgdkpgcaaDoorE18b
import Derived.Below
set_option linter.unusedVariables false
set_option linter.unusedSimpArgs false
namespace Go.Eng
open Go.RowKit

theorem tcs_noOwn (b : Nat) : ∀ (vs : List Value) (as : List AV), (∀ a ∈ as, NoOwn a) → tcs b vs as = 0
  | [], _, _ => by simp [tcs, zsum]
  | _ :: _, [], _ => by simp [tcs, zsum]
  | v :: vs, a :: as, h => by
    have h1 := (h a (by simp)).tc b v
    have h2 := tcs_noOwn b vs as (fun x hx => h x (by simp [hx]))
    simp only [tcs, zsum] at h2 ⊢
    omega

theorem ev_calls {P : Program} {cfg : FuncId → FCfg} {ext : Ext} {I0 : Mem} {f : FuncId} {args : List AV} {W : World} {cargs : Array Value} {v : Value} {m : RM} {H' : Heap} (hmix : P.follows .mixedOrders = true)
    (hng : (P.funcs.toList.all fun fn => !(fn.name == "runtime.NumGoroutine")) = true) (h : ev P cfg ext f args .none [] = some ⟨.ret (.val v), m, H'⟩) (hext : ExtSound P I0 ext) (hextb : ∀ (f : FuncId) e, ext f = some e → ∃ (fn : Func) (c : Code), P.funcs[f]? = some fn ∧ fn.body = some c) (hI : LeM I0 (memOf W))
    (hr : RepL (memOf W) [] cargs.toList args) (hno : ∀ a ∈ args, NoOwn a) : Calls P f cargs W fun e W' => e = .returned v ∧ Below W.heap.size W W' := by
  obtain ⟨k, hk⟩ := ev_iff.1 h
  have hng' : ∀ (f : FuncId) (fn : Func), P.funcs[f]? = some fn → (fn.name == "runtime.NumGoroutine") = false := by
    intro f fn hf
    have := List.all_eq_true.1 hng fn (Array.mem_toList_iff.2 (Array.mem_of_getElem? hf))
    simpa using this
  have h0 : ∀ b, argTok [] [] [] cargs.toList args b = 0 := by
    intro b
    unfold argTok
    rw [tcs_noOwn b _ _ hno]
    first | done | simp [tcss, zsum]
  obtain ⟨_, hc⟩ := acall_sound (cfg := cfg) hmix hng' hext hextb k f args .none [] _ hk (memOf W) [] [] W cargs.toList hI (hinv0 W) hr
    (fun i v a _ ha => (hno a (List.mem_of_getElem? ha)).spare W v) (fun b => by rw [h0 b]; omega)
  simp only at hc
  refine hc.mono fun e W' ⟨J, ν, HV', hp⟩ => ?_
  obtain ⟨v', rfl, hv, _⟩ := hp.outr
  have hvv : v' = v := by cases hv; rfl
  refine ⟨by rw [hvv], hp.eff.os, hp.eff.tape, hp.eff.output, hp.eff.size, fun k hk => hp.eff.keep k hk fun h => ?_⟩
  rw [h0 k] at h; omega
end Go.Eng
