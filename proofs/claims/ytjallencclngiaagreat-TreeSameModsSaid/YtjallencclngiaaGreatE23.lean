/-
  THE ENGINE, part 23: what comes in: a world's cells as memory that nobody writes; lists are opened row by row.
-/
import Derived.Test.YtjallencclngiaaGreatE22
import Derived.ChangeArms
import Derived.ChangeSlices
import Derived.DataReads
set_option linter.unusedVariables false
set_option linter.unusedSimpArgs false
namespace Go.Eng

def memOf (w : World) : Mem := fun b o => match w.cell? ⟨b, o, none⟩ with
  | some v => if v.oneCell' = true then some v else none
  | none => none

theorem memOf_ok (w : World) : ImmOk (memOf w) w := by
  intro b o v h
  unfold memOf at h
  split at h
  · rename_i e
    split at h
    · rename_i h1
      simp only [Option.some.injEq] at h; subst h
      exact ⟨e, h1⟩
    · cases h
  · cases h

theorem memOf_at {w : World} {b o : Nat} {v : Value} (h : w.cell? ⟨b, o, none⟩ = some v) (h1 : v.oneCell' = true) : memOf w b o = some v := by
  unfold memOf; simp only [h, h1, if_true]

theorem hinv0 (w : World) : HInv (memOf w) [] [] w [] := ⟨memOf_ok w, rfl, rfl, fun id b ws cs h => by simp at h⟩

theorem rows_read {I : Mem} {b sz : Nat} {α : Type} {row : α → List AV} {ok : α → Prop} : ∀ (k o : Nat), (∀ i, i < k → ∃ cs a, ReadAt I b (o + i * sz) cs ∧ cs.length = sz ∧ RepL I [] cs (row a) ∧ ok a) →
    ∃ (ws : List Value) (l : List α), l.length = k ∧ ReadAt I b o ws ∧ RepL I [] ws (l.map row).flatten ∧ ∀ x ∈ l, ok x ∧ (row x).length = sz := by
  intro k
  induction k with
  | zero => intro o h; exact ⟨[], [], rfl, fun i v h => by simp at h, .nil, fun x hx => by cases hx⟩
  | succ k ih =>
    intro o h
    obtain ⟨cs, a, h1, h2, h3, h4⟩ := h 0 (by omega)
    obtain ⟨ws, l, e1, e2, e3, e4⟩ := ih (o + sz) (fun i hi => by
      obtain ⟨cs, a, h1, h2, h3, h4⟩ := h (i + 1) (by omega)
      refine ⟨cs, a, ?_, h2, h3, h4⟩
      have : o + sz + i * sz = o + (i + 1) * sz := by rw [Nat.succ_mul]; omega
      rw [this]; exact h1)
    refine ⟨cs ++ ws, a :: l, by simp [e1], ?_, ?_, ?_⟩
    · intro i v hv
      rcases Nat.lt_or_ge i cs.length with hlt | hge
      · rw [List.getElem?_append_left hlt] at hv
        simpa using h1 i v hv
      · rw [List.getElem?_append_right hge] at hv
        have := e2 (i - cs.length) v hv
        have e : o + sz + (i - cs.length) = o + i := by omega
        rwa [e] at this
    · simp only [List.map_cons, List.flatten_cons]
      exact h3.append e3
    · intro x hx
      rcases List.mem_cons.1 hx with rfl | hx
      · exact ⟨h4, by rw [← h3.length, h2]⟩
      · exact e4 x hx

section
variable {H : Type} {enc : TypeId × Value → H} {P : Program} {w : World} {spare : Nat → Bool} {held : Bool}

theorem open_rows {α : Type} {row : α → List AV} {ok : α → Prop} {t e : TypeId} {sz fuel : Nat} {cs : List Value} {x : DataW H × List MemPlace} (ht : P.underlying t = some (.slice e)) (hsz : P.cellsOf e = sz) (hpos : 0 < sz)
    (each : ∀ n, n < fuel → ∀ cs y, DataW.trod enc P w 0 spare held n e cs = some y → ∃ a, RepL (memOf w) [] cs (row a) ∧ OneCells cs ∧ ok a) (h : DataW.trod enc P w 0 spare held fuel t cs = some x) :
    ∃ l : List α, RepL (memOf w) [] cs [.slice sz (l.map row) .no] ∧ OneCells cs ∧ l.length ≤ maxLen ∧ ∀ x ∈ l, ok x := by
  rcases DataW.trod_slice ht h with ⟨rfl, _⟩ | ⟨a, len, cap, elems, rest, n, rfl, rfl, _, _, hl, hm, hlen, hel, _, _⟩
  · exact ⟨[], .slice0 _ _ .nil, fun v hv => by simp at hv; subst hv; rfl, Nat.zero_le _, fun x hx => by cases hx⟩
  · have h1 : OneCells [Value.slice (some a) len cap] := fun v hv => by simp at hv; subst hv; rfl
    by_cases h0 : len = 0
    · subst h0
      exact ⟨[], .slice1 a cap sz .no (.inl rfl) .nil, h1, Nat.zero_le _, fun x hx => by cases hx⟩
    · have get : ∀ i, i < len → ∃ cs y, w.cells? 0 (a.add (i * sz)) sz = some cs ∧ DataW.trod enc P w 0 spare held n e cs = some y := by
        intro i hi
        have hb := hel i hi
        rw [hsz, List.getElem?_eq_getElem (by omega), Option.bind_eq_some_iff] at hb
        obtain ⟨cs, hcs, hy⟩ := hb
        exact ⟨cs, _, hcs, hy⟩
      have hspot : a.spot = none := by
        obtain ⟨cs, y, hcs, _⟩ := get 0 (by omega)
        obtain ⟨_, hl2, hc⟩ := World.cells?_some hcs
        have := hc 0 hpos
        have hlt : 0 < cs.length := by omega
        rw [List.getElem?_eq_getElem hlt] at this
        unfold World.cell? at this
        split at this
        · split at this
          · cases this
          · rename_i hs; simpa [Addr.add] using hs
        · cases this
      obtain ⟨b, o, sp⟩ := a
      simp only at hspot; subst hspot
      obtain ⟨ws, l, e1, e2, e3, e4⟩ := rows_read (I := memOf w) (b := b) (sz := sz) (row := row) (ok := ok) len o (fun i hi => by
        obtain ⟨cs, y, hcs, hy⟩ := get i hi
        obtain ⟨a, r1, r2, r3⟩ := each n (Nat.lt_succ_self n) cs y hy
        obtain ⟨_, hl2, hc⟩ := World.cells?_some hcs
        refine ⟨cs, a, ?_, hl2, r1, r3⟩
        intro j v hv
        have hj : j < sz := by rw [← hl2]; exact (List.getElem?_eq_some_iff.1 hv).1
        refine memOf_at ?_ (r2 v (List.mem_of_getElem? hv))
        have := hc j hj
        rw [hv, add_addr, add_addr] at this
        exact this)
      have := RepL.slice (I := memOf w) (μ := []) (vs := []) (as := []) b o cap sz ws (l.map row) .no e2 e3 (fun r hr => by
        obtain ⟨x, hx, rfl⟩ := List.mem_map.1 hr
        exact (e4 x hx).2) (by rw [List.length_map, e1]; exact hl) (fun h => by cases h) .nil
      rw [List.length_map, e1] at this
      exact ⟨l, this, h1, by omega, fun x hx => (e4 x hx).1⟩
end
end Go.Eng
