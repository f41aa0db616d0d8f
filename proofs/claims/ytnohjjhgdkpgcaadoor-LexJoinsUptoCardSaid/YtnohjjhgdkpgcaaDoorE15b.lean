/-
  THE ENGINE, part 15b: a heap is cut back to what it was, where nothing that is left points beyond.
-/
import Derived.Test.YtnohjjhgdkpgcaaDoorE15
set_option linter.unusedVariables false
set_option linter.unusedSimpArgs false
namespace Go.Eng

theorem CPost.cut {I J : Mem} {μ ν : List Nat} {HV HV' : List (List Value)} {w w' : World} {H H' : Heap} {cargs : List Value} {args : List AV} {out : Out} {e : Ending} {n : Nat}
    (h : CPost I μ HV w H cargs args out H' J ν HV' e w') (hn : μ.length = n) (hv : out.low n = true) (hl : lowss n (H'.take n) = true) :
    CPost I μ HV w H cargs args out (H'.take n) J (ν.take n) (HV'.take n) e w' := by
  have le : ∀ b, (ν.take n).count b + tcss b (HV'.take n) (H'.take n) + outTok b out e ≤ ν.count b + tcss b HV' H' + outTok b out e := by
    intro b
    have h1 := count_take b ν n
    have h2 : tcss b (HV'.take n) (H'.take n) ≤ tcss b HV' H' := zsum_take _ n _ _
    omega
  refine ⟨h.h.take hl, h.eff, ?_, ?_, fun b => Nat.le_trans (le b) (h.one b), fun b hb => h.tok b (Nat.lt_of_lt_of_le hb (le b))⟩
  · intro i b hi
    rw [List.getElem?_take, if_pos (by rw [← hn]; exact (List.getElem?_eq_some_iff.1 hi).1)]
    exact h.mu i b hi
  · cases out with
    | ret v =>
      obtain ⟨v', e1, e2, e3⟩ := h.outr
      exact ⟨v', e1, e2.take_mu (by simp only [lows, Bool.and_true]; exact hv), e3⟩
    | panic v =>
      obtain ⟨chain, e1, u, older, e2, e3, e4⟩ := h.outr
      exact ⟨chain, e1, u, older, e2, e3, e4.take_mu (by simp only [lows, Bool.and_true]; exact hv)⟩

/-- With the cut. -/
theorem CPost.cutRes {I J : Mem} {μ ν : List Nat} {HV HV' : List (List Value)} {w w' : World} {H : Heap} {cargs : List Value} {args : List AV} {r : CRes} {e : Ending} {n : Nat}
    (h : CPost I μ HV w H cargs args r.out r.H J ν HV' e w') (hn : μ.length = n) : ∃ ν' HV'', CPost I μ HV w H cargs args (cutRes n r).out (cutRes n r).H J ν' HV'' e w' := by
  unfold Eng.cutRes
  split
  · exact ⟨_, _, h⟩
  · split
    · rename_i hl
      simp only [Bool.and_eq_true] at hl
      exact ⟨_, _, h.cut hn hl.1 hl.2⟩
    · exact ⟨_, _, h⟩
end Go.Eng
