/- contracts in the empty heap hold in any heap -/
import Derived.Test.YtgimppnhjfjeaaaE29
open Go Go.Eng
namespace Go.Eng
theorem ev_lift {P : Program} {cfg : FuncId → FCfg} {f : FuncId} {args : List AV} {o : Out} {K : Heap} (h : ev P cfg (fun _ => none) f args .none [] = some ⟨o, .none, []⟩)
    (ha : args.map (AV.ren (· + K.length)) = args) (ho : renOut (· + K.length) o = o) (hk : lowss K.length K = true) : ev P cfg (fun _ => none) f args .none K = some ⟨o, .none, K⟩ := by
  have hf : Fr (· + K.length) 0 K.length K := ⟨fun i hi => by omega, fun i hi => by simp, fun i j hi => by omega, fun j cs hj _ _ => by
    rw [lowss_all, List.all_eq_true] at hk
    exact hk cs (List.mem_of_getElem? hj)⟩
  obtain ⟨r, h1, h2⟩ := ev_ren hf f args .none [] _ h K ⟨Nat.zero_le _, by simp, fun i => by simp, fun j hj _ => rfl⟩
  rw [ha] at h1
  have e0 : renRM (· + K.length) .none = .none := rfl
  rw [e0] at h1
  rw [h1]
  obtain ⟨o', rm', H'⟩ := r
  have e1 := h2.o
  have e2 := h2.rm
  simp only [ho] at e1 e2
  have e3 : H' = K := by
    apply List.ext_getElem?
    intro j
    rcases Nat.lt_or_ge j K.length with hj | hj
    · exact h2.H.off j hj fun i hi => absurd hi (by omega)
    · have := h2.H.len
      simp at this
      rw [List.getElem?_eq_none (by omega), List.getElem?_eq_none hj]
  rw [e1, e2, e3]; rfl
end Go.Eng
