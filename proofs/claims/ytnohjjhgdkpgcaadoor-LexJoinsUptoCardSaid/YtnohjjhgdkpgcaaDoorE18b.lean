/-
  THE ENGINE, part 18b: what comes in: a world's cells as memory that nobody writes.
-/
import Derived.Test.YtnohjjhgdkpgcaaDoorE17
import Derived.ChangeArms
import Derived.ChangeSlices
import Derived.DataReads
set_option linter.unusedVariables false
set_option linter.unusedSimpArgs false
namespace Go.Eng

def memOf (w : World) : Mem := fun b o => match w.cell? ⟨b, o, none⟩ with
  | some v => if v.oneCell' = true then some v else none
  | none => none

theorem memOf_ok (w : World) : ImmOk (memOf w) w := by
  intro b o v h
  unfold memOf at h
  split at h
  · rename_i e
    split at h
    · rename_i h1
      simp only [Option.some.injEq] at h; subst h
      exact ⟨e, h1⟩
    · cases h
  · cases h

theorem memOf_at {w : World} {b o : Nat} {v : Value} (h : w.cell? ⟨b, o, none⟩ = some v) (h1 : v.oneCell' = true) : memOf w b o = some v := by
  unfold memOf; simp only [h, h1, if_true]

theorem hinv0 (w : World) : HInv (memOf w) [] [] w [] := ⟨memOf_ok w, rfl, rfl, fun id b ws cs h => by simp at h⟩

end Go.Eng
