import Derived.Test.YtjallencclngiaaK18
import Derived.Test.YtjallencclngiaaK19
import Derived.Below
open Go Go.Eng
namespace Go.Proofs
set_option maxRecDepth 100000
set_option linter.unusedVariables false

theorem law3 (p q : Pat) (t u : Ty) (hp : p.ok) (ht : t.ok) : ∃ H, tev 3 [.agg p.row, .agg q.row, .agg t.row, .agg u.row] .none [] = some (retB true H) := by
  obtain ⟨m, H', ha⟩ := alive_11
  refine ⟨H', ?_⟩
  have e1 := same_7 [] p hp q
  have e2 := ref_8 [] p hp q
  have e3 := same_9 [] t ht u
  have e4 := ref_10 [] t ht u
  generalize p.same q = bp at e1 e2
  generalize t.same u = bt at e3 e4
  obtain ⟨k, n, r, m, a⟩ := p
  obtain ⟨k', n', r', m', a'⟩ := q
  obtain ⟨l, s, v, b⟩ := t
  obtain ⟨l', s', v', b'⟩ := u
  rw [Pat.row, Pat.row] at e1 e2
  rw [Ty.row, Ty.row] at e3 e4
  rw [Pat.row, Pat.row, Ty.row, Ty.row]
  refine ev_tree (sh := sh0) (rs := rs0) rfl Try.func3 b3 (t3 k k' m m' l l' n n' s s' (strs r) (strs r') (Pat.rows a) (Pat.rows a') (strs v) (strs v') (Ty.rows b) (Ty.rows b')) ?_
  refine wp_callB e1 (wp_callB e2 (wp_if (fun _ => ?_) (fun h => by cases bp <;> cases h)))
  refine wp_callB e3 (wp_callB e4 (wp_if (fun _ => ?_) (fun h => by cases bt <;> cases h)))
  exact ⟨true, _, H', ha, rfl⟩
end Go.Proofs
