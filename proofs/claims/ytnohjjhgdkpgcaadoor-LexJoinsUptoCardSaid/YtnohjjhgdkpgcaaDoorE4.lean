/-
  THE ENGINE, part 4: operations that make memory: structs built, slices built, made and appended to, boxes that nobody writes.
-/
import Derived.Test.YtnohjjhgdkpgcaaDoorE3
import Derived.Laws.Tables
set_option linter.unusedVariables false
set_option linter.unusedSimpArgs false
namespace Go.Eng

section
variable {P : Program} {I : Mem} {μ : List Nat} {lh : List (Option LCell)} {lv : List LV} {w : World}

/-! ### parts laid into cells -/

theorem writes_rep {ws : List Value} {as : List AV} {off : Nat} (hw : RepL I μ ws as) (ho : OneCells ws) : ∀ {cells : Array Value} {acells : List AV} (j : Nat), RepL I μ cells.toList acells → OneCells cells.toList →
    RepL I μ ((ws.zipIdx j).foldl (fun (cs : Array Value) (c, j) => cs.setIfInBounds (off + j) c) cells).toList (writeCells acells (off + j) as) ∧
    OneCells ((ws.zipIdx j).foldl (fun (cs : Array Value) (c, j) => cs.setIfInBounds (off + j) c) cells).toList := by
  induction ws generalizing as with
  | nil => intro cells acells j h1 h2; cases hw; exact ⟨h1, h2⟩
  | cons w ws ih =>
    intro cells acells j h1 h2
    cases as with
    | nil => cases hw
    | cons a as =>
      obtain ⟨ha, hw'⟩ := hw.uncons
      simp only [List.zipIdx_cons, List.foldl_cons, writeCells]
      refine ih hw' (fun v hv => ho v (by simp [hv])) (j + 1) ?_ ?_
      · simpa using h1.set (off + j) ha
      · intro v hv
        simp only [Array.toList_setIfInBounds] at hv
        rcases List.mem_or_eq_of_mem_set hv with h | h
        · exact h2 v h
        · subst h; exact ho _ (by simp)

theorem fillA_sound {t : TypeId} {place : Nat → Option (Nat × Nat)} (hp : ∀ i p, place? P t i = some p → place i = some p) {α : Type} (ρ : α → Value) :
    ∀ (ps : List (Nat × α)) {avs : List AV} {cells : Array Value} {acells r : List AV}, RepL I μ (ps.map fun p => ρ p.2) avs → RepL I μ cells.toList acells → OneCells cells.toList →
      fillA P t acells (zipParts ps avs) = some r → ∃ cells', Instr.fill place cells (ps.map fun p => (p.1, ρ p.2)) = some cells' ∧ RepL I μ cells'.toList r ∧ OneCells cells'.toList ∧ cells'.size = cells.size := by
  intro ps
  induction ps with
  | nil => intro avs cells acells r hv hc ho h; simp [zipParts, fillA] at h; subst h; exact ⟨cells, rfl, hc, ho, rfl⟩
  | cons p ps ih =>
    intro avs cells acells r hv hc ho h
    obtain ⟨i, x⟩ := p
    cases avs with
    | nil => have := hv.length; simp at this
    | cons a avs =>
      obtain ⟨ha, hv'⟩ := hv.uncons
      simp only [zipParts, fillA] at h
      split at h
      · rename_i off n cs hpl hcs
        split at h
        · rename_i hb
          obtain ⟨hn, hle⟩ := hb
          obtain ⟨hr, hone⟩ := cells_rep ha hcs
          have hlen : (ρ x).cells.size = n := by have := hr.length; simp at this; omega
          have hcl : cells.size = acells.length := by have := hc.length; simpa using this
          have hw := writes_rep (off := off) hr.dis hone 0 hc ho
          obtain ⟨cells', h1, h2, h3, h4⟩ := ih hv' hw.1 hw.2 h
          refine ⟨cells', ?_, h2, h3, ?_⟩
          · simp only [List.map_cons, Instr.fill, hp i _ hpl]
            rw [if_neg (by simp; omega)]
            rw [← h1]
            congr 1
            rw [← Array.foldl_toList, Array.toList_zipIdx]
          · rw [h4]
            have : ∀ (l : List (Value × Nat)) (c : Array Value), (l.foldl (fun (cs : Array Value) (c, j) => cs.setIfInBounds (off + j) c) c).size = c.size := by
              intro l; induction l with
              | nil => intro c; rfl
              | cons x l ih => intro c; rw [List.foldl_cons, ih]; simp
            exact this _ _
        · cases h
      · cases h

theorem zero_run {t : TypeId} {z : Value} (h : (P.info? t).bind (·.zero) = some z) (w : World) : (zeroValue t).run P w = .ok z w := by
  cases hi : P.info? t with
  | none => simp [hi] at h
  | some i => simp [hi] at h; simp [zeroValue, typeInfo, hi, h]

theorem mapM_run {α β : Type} (f : α → Sem β) (g : α → β) (l : List α) (w : World) (h : ∀ x ∈ l, (f x).run P w = .ok (g x) w) : (l.mapM f).run P w = .ok (l.map g) w := by
  induction l with
  | nil => simp
  | cons x l ih =>
    rw [List.mapM_cons]
    simp [h x (by simp), ih fun y hy => h y (by simp [hy])]

theorem arrMapM_run {α β : Type} (f : α → Sem β) (g : α → β) (l : Array α) (w : World) (h : ∀ x ∈ l.toList, (f x).run P w = .ok (g x) w) : (l.mapM f).run P w = .ok (l.map g) w := by
  rw [Array.mapM_eq_mapM_toList]
  simp [mapM_run f g l.toList w h]
  apply Array.ext'; simp

theorem zeroCells_rep {t : TypeId} {cs : List AV} (h : zeroCells P t = some cs) : ∃ z, (P.info? t).bind (·.zero) = some z ∧ RepL I μ z.cells.toList cs ∧ OneCells z.cells.toList := by
  unfold zeroCells at h
  split at h
  · rename_i z hz
    split at h
    · rename_i ho; simp only [Option.some.injEq] at h; subst h; exact ⟨z, hz, .ofCells _, fun v hv => List.all_eq_true.1 ho v hv⟩
    · cases h
  · cases h

theorem abuild_sound {t : TypeId} (ps : Array (Nat × Operand)) {ρ : Operand → Value} {avs : List AV} {r : AV} (hv : RepL I μ (ps.toList.map fun p => ρ p.2) avs) (h : abuild P t (zipParts ps.toList avs) = some r) :
    ∃ v', (Instr.build t (ps.map fun (i, x) => (i, ρ x))).run P w = .ok v' w ∧ Rep I μ v' r ∧ NoOwn r := by
  unfold abuild at h
  split at h
  · rename_i fs hd
    split at h
    · rename_i hall
      split at h
      · rename_i z hz
        simp only [Option.map_eq_some_iff] at h
        obtain ⟨cs, hcs, rfl⟩ := h
        obtain ⟨zv, hzv, hzr, hzo⟩ := zeroCells_rep (I := I) (μ := μ) hz
        have hpl : ∀ i p, place? P t i = some p → ((fs.map fun f => (f.offset, (size? P f.type).getD 0))[i]?) = some p := by
          intro i p hp
          simp only [place?, hd] at hp
          cases hf : fs[i]? with
          | none => simp [hf] at hp
          | some f =>
            simp [hf] at hp
            obtain ⟨n, hn, rfl⟩ := hp
            simp [hf, hn]
        obtain ⟨cells', h1, h2, h3, _⟩ := fillA_sound (P := P) (t := t) (place := fun i => (fs.map fun f => (f.offset, (size? P f.type).getD 0))[i]?) hpl ρ ps.toList hv hzr hzo hcs
        refine ⟨.agg cells', ?_, .agg _ _ h3 h2 .nil, fun s r h => by cases h⟩
        have hm : (fs.mapM fun f => do pure (f.offset, ← sizeOf f.type) : Sem (Array (Nat × Nat))).run P w = .ok (fs.map fun f => (f.offset, (size? P f.type).getD 0)) w := by
          refine arrMapM_run _ _ fs w fun f hf => ?_
          have := List.all_eq_true.1 hall f hf
          obtain ⟨n, hn⟩ := Option.isSome_iff_exists.1 this
          simp [size_run hn, hn]
        have h1' : Instr.fill (fun i => (fs.map fun f => (f.offset, (size? P f.type).getD 0))[i]?) zv.cells (ps.map fun (i, x) => (i, ρ x)).toList = some cells' := by
          rw [← h1]; simp
        simp only [Instr.build, Sem.run_bind, zero_run hzv, Result.andThen_ok, run_underlying hd, hm, h1']
        rfl
      · cases h
    · cases h
  · rename_i len e hd
    split at h
    · rename_i z n hz hn
      simp only [Option.map_eq_some_iff] at h
      obtain ⟨cs, hcs, rfl⟩ := h
      obtain ⟨zv, hzv, hzr, hzo⟩ := zeroCells_rep (I := I) (μ := μ) hz
      have hpl : ∀ i p, place? P t i = some p → (fun i => some (i * n, n)) i = some p := by
        intro i p hp
        simpa [place?, hd, hn] using hp
      obtain ⟨cells', h1, h2, h3, _⟩ := fillA_sound (P := P) (t := t) hpl ρ ps.toList hv hzr hzo hcs
      refine ⟨.agg cells', ?_, .agg _ _ h3 h2 .nil, fun s r h => by cases h⟩
      have h1' : Instr.fill (fun i => some (i * n, n)) zv.cells (ps.map fun (i, x) => (i, ρ x)).toList = some cells' := by
        rw [← h1]; simp
      simp only [Instr.build, Sem.run_bind, zero_run hzv, Result.andThen_ok, run_underlying hd, size_run hn, h1']
      rfl
    · cases h
  · cases h

/-! ### a new block that nobody writes -/

def addBlock (I : Mem) (n : Nat) (ws : List Value) : Mem := fun b o => if b = n then ws[o]? else I b o

structure Pushed (w : World) (c : Array Value) (e : TypeId) (w' : World) : Prop where
  heap : w'.heap = w.heap.push (.cells c e (0, 0))
  os : w'.os = w.os
  tape : w'.tape = w.tape
  output : w'.output = w.output

theorem Pushed.old {w w' : World} {c : Array Value} {e : TypeId} (h : Pushed w c e w') {b : Nat} (hb : b < w.heap.size) : w'.heap[b]? = w.heap[b]? := by
  rw [h.heap, Array.getElem?_push, if_neg (by omega)]

theorem Pushed.new {w w' : World} {c : Array Value} {e : TypeId} (h : Pushed w c e w') : w'.heap[w.heap.size]? = some (.cells c e (0, 0)) := by
  rw [h.heap]; simp

theorem cell_of_block {w w' : World} {a : Addr} (h : w'.heap[a.block]? = w.heap[a.block]?) : w'.cell? a = w.cell? a := by simp [World.cell?, h]

theorem Pushed.imm {w w' : World} {c : Array Value} {e : TypeId} (h : Pushed w c e w') (hI : ImmOk I w) {ws : List Value} (hws : ∀ (i : Nat) v, ws[i]? = some v → c[i]? = some v) (ho : OneCells ws) (A : Nat → Prop) :
    Eff I w A (addBlock I w.heap.size ws) w' ∧ ImmOk (addBlock I w.heap.size ws) w' ∧ ReadAt (addBlock I w.heap.size ws) w.heap.size 0 ws := by
  refine ⟨⟨?_, ?_, fun b hb _ => h.old hb, by rw [h.heap]; simp, h.os, h.tape, h.output⟩, ?_, ?_⟩
  · intro b o v hv
    have := hI.lt hv
    simp only [addBlock]; rw [if_neg (by omega)]; exact hv
  · intro b o v hv
    simp only [addBlock] at hv
    split at hv
    · rename_i hb; exact .inr (.inl (by omega))
    · exact .inl hv
  · intro b o v hv
    simp only [addBlock] at hv
    split at hv
    · rename_i hb; subst hb
      exact ⟨by simp [World.cell?, h.new, hws o v hv], ho v (List.mem_of_getElem? hv)⟩
    · have hlt := hI.lt hv
      exact ⟨by rw [cell_of_block (h.old (b := b) hlt)]; exact (hI b o v hv).1, (hI b o v hv).2⟩
  · intro i v hv
    simp only [addBlock, if_true, Nat.zero_add]; exact hv

theorem Pushed.none {w w' : World} {c : Array Value} {e : TypeId} (h : Pushed w c e w') (hI : ImmOk I w) (A : Nat → Prop) : Eff I w A I w' ∧ ImmOk I w' ∧ ∀ o, I w.heap.size o = Option.none := by
  refine ⟨⟨.refl I, fun b o v hv => .inl hv, fun b hb _ => h.old hb, by rw [h.heap]; simp, h.os, h.tape, h.output⟩, ?_, ?_⟩
  · intro b o v hv
    exact ⟨by rw [cell_of_block (h.old (b := b) (hI.lt hv))]; exact (hI b o v hv).1, (hI b o v hv).2⟩
  · intro o
    cases hv : I w.heap.size o with
    | none => rfl
    | some v => have := hI.lt hv; omega

theorem pushed_alloc (w : World) (c : Array Value) (e : TypeId) : Pushed w c e { w with heap := w.heap.push (.cells c e) } := ⟨rfl, rfl, rfl, rfl⟩
theorem pushed_drew (w : World) (c : Array Value) (e : TypeId) : Pushed w c e (w.drew.alloc (.cells c e)) := ⟨rfl, rfl, rfl, rfl⟩

theorem newCells_run {o : Oper} {vs : List AV} {cs : List AV} {ρ : Operand → Value} {cvs : List Value} (h : newCells P o vs = some cs) (hv : TRepL I μ lh lv cvs vs) (hc : cvs = o.op.operands.toList.map ρ) :
    ∃ e c w', (execOp ρ o).run P w = .ok (.value (.pointer (some ⟨w.heap.size, 0, none⟩))) w' ∧ Pushed w c e w' ∧ RepL I μ c.toList cs ∧ OneCells c.toList := by
  unfold newCells at h
  split at h
  · rename_i e hop
    obtain ⟨z, hz, h1, h2⟩ := zeroCells_rep (I := I) (μ := μ) h
    refine ⟨e, z.cells, _, ?_, pushed_alloc w _ _, h1, h2⟩
    simp [execOp, hop, Instr.alloc, zero_run hz, newVar, newRow]
  · rename_i e x v hop
    simp only [Option.map_eq_some_iff] at h
    obtain ⟨cs', hcs, rfl⟩ := h
    simp [hop, Op.operands] at hc
    subst hc
    have hr : Rep I μ (ρ x) v := (hv.uncons.1).rep (by cases v <;> simp [AV.cells] at hcs <;> rfl)
    obtain ⟨h1, h2⟩ := cells_rep hr hcs
    refine ⟨e, (ρ x).cells, _, ?_, pushed_alloc w _ _, h1.dis, h2⟩
    simp [execOp, hop, Instr.box, newVar, newRow]
  · cases h

/-! ### slices that are built and made -/

theorem flatten_replicate_get {α : Type} (l : List α) (n i : Nat) (h : i < n * l.length) : (List.replicate n l).flatten[i]? = l[i % l.length]? := by
  induction n generalizing i with
  | zero => simp at h
  | succ n ih =>
    rw [List.replicate_succ, List.flatten_cons]
    by_cases hi : i < l.length
    · rw [List.getElem?_append_left hi, Nat.mod_eq_of_lt hi]
    · have hs : (n + 1) * l.length = n * l.length + l.length := Nat.succ_mul n l.length
      rw [List.getElem?_append_right (by omega), ih _ (by omega)]
      congr 1
      exact (Nat.mod_eq_sub_mod (by omega)).symm

theorem range_mod (z : Array Value) (n : Nat) : ((Array.range (n * z.size)).map (fun k => z[k % z.size]!)).toList = (List.replicate n z.toList).flatten := by
  apply List.ext_getElem?
  intro i
  by_cases hi : i < n * z.size
  · have h0 : 0 < z.size := by rcases Nat.eq_zero_or_pos z.size with h | h; simp [h] at hi; exact h
    rw [flatten_replicate_get _ _ _ (by simpa using hi)]
    have hm : i % z.size < z.size := Nat.mod_lt _ h0
    simp [hi, hm]
  · rw [List.getElem?_eq_none (by simp; omega), List.getElem?_eq_none]
    simp [List.length_flatten]; omega

theorem chunks_flatten {sz n : Nat} : ∀ {l : List AV}, l.length = n * sz → (chunks sz n l).flatten = l ∧ (∀ r ∈ chunks sz n l, r.length = sz) ∧ (chunks sz n l).length = n := by
  induction n with
  | zero => intro l h; simp at h; subst h; simp [chunks]
  | succ n ih =>
    intro l h
    rw [Nat.succ_mul] at h
    obtain ⟨h1, h2, h3⟩ := ih (l := l.drop sz) (by simp; omega)
    refine ⟨by simp [chunks, h1], ?_, by simp [chunks, h3]⟩
    intro r hr
    simp only [chunks, List.mem_cons] at hr
    rcases hr with rfl | hr
    · simp; omega
    · exact h2 r hr

theorem replicate_rep {vs : List Value} {as : List AV} (h : RepL I μ vs as) (n : Nat) : RepL I μ (List.replicate n vs).flatten (List.replicate n as).flatten := by
  induction n with
  | zero => exact .nil
  | succ n ih => simpa [List.replicate_succ] using h.append ih

theorem replicate_one {vs : List Value} (h : OneCells vs) (n : Nat) : OneCells (List.replicate n vs).flatten := by
  intro v hv
  simp only [List.mem_flatten, List.mem_replicate] at hv
  obtain ⟨l, ⟨_, rfl⟩, hv⟩ := hv
  exact h v hv

theorem abuildSlice_sound (hI : ImmOk I w) {t : TypeId} {n : Nat} (ps : Array (Nat × Operand)) {ρ : Operand → Value} {avs : List AV} {r : AV} (hv : RepL I μ (ps.toList.map fun p => ρ p.2) avs)
    (h : abuildSlice P t n (zipParts ps.toList avs) = some r) (A : Nat → Prop) :
    ∃ v' w' J, (Instr.buildSlice t n (ps.map fun (i, x) => (i, ρ x))).run P w = .ok v' w' ∧ Eff I w A J w' ∧ ImmOk J w' ∧ Rep J μ v' r ∧ NoOwn r := by
  unfold abuildSlice at h
  split at h
  · rename_i e hd
    split at h
    · rename_i i hi
      split at h
      · rename_i z hz
        split at h
        · rename_i hb
          obtain ⟨h1, h2, h3, h4⟩ := hb
          simp only [Option.map_eq_some_iff] at h
          obtain ⟨cs, hcs, rfl⟩ := h
          have hsz : size? P e = some i.size := by simp [size?, hi]
          have hzr : RepL I μ z.cells.toList (z.cells.toList.map ofCell) := .ofCells _
          have hzo : OneCells z.cells.toList := fun v hv => List.all_eq_true.1 h4 v hv
          have hcell0 := range_mod z.cells n
          have hpl : ∀ j p, place? P t j = some p → (fun j => some (j * i.size, i.size)) j = some p := by
            intro j p hp
            simpa [place?, hd, hsz] using hp
          obtain ⟨cells', f1, f2, f3, f4⟩ := fillA_sound (P := P) (t := t) (I := I) (μ := μ) (cells := (Array.range (n * z.cells.size)).map (fun k => z.cells[k % z.cells.size]!)) hpl ρ ps.toList hv
            (by rw [hcell0]; exact replicate_rep hzr n) (by rw [hcell0]; exact replicate_one hzo n) hcs
          have hlen : cells'.size = n * i.size := by rw [f4, h1]; simp
          have hne : n * i.size ≠ 0 ∨ n = 0 := by
            rcases Nat.eq_zero_or_pos n with h | h
            · exact .inr h
            · exact .inl (Nat.ne_of_gt (Nat.mul_pos h h2))
          have hrun : (Instr.buildSlice t n (ps.map fun (i, x) => (i, ρ x))).run P w = .ok (.slice (some ⟨w.heap.size, 0, none⟩) n n) { w with heap := w.heap.push (.cells cells' e) } := by
            have h3' : ¬ (2 ^ 24 < n * i.size) := by omega
            have f1' : Instr.fill (fun j => some (j * i.size, i.size)) ((Array.range (n * i.size)).map (fun k => z.cells[k % z.cells.size]!)) (ps.map fun (i, x) => (i, ρ x)).toList = some cells' := by
              rw [← f1, h1]; simp
            simp only [Instr.buildSlice, Sem.run_bind, run_underlying hd, Result.andThen_ok, size_run hsz]
            rw [Sem.run_ite, if_neg h3']
            rcases hne with hne | rfl
            · simp only [hne, if_false]
              rw [Sem.run_bind, zero_run (P := P) (t := e) (z := z) (by simp [hi, hz]), Result.andThen_ok, Sem.run_bind, Sem.run_pure, Result.andThen_ok, f1']
              rfl
            · have f0 : Instr.fill (fun j => some (j * i.size, i.size)) ((Array.range (0 * i.size)).map (fun k => (#[] : Array Value)[k % (#[] : Array Value).size]!)) (ps.map fun (i, x) => (i, ρ x)).toList = some cells' := by
                rw [← f1']; congr 1; apply Array.ext'; simp
              simp only [Nat.zero_mul, if_true]
              rw [Sem.run_bind, Sem.run_pure, Result.andThen_ok]
              simp only [Nat.zero_mul] at f0
              rw [f0]
              rfl
          obtain ⟨g1, g2, g3⟩ := (pushed_alloc w cells' e).imm hI (ws := cells'.toList) (fun j v hv => by simpa using hv) f3 A
          obtain ⟨k1, k2, k3⟩ := chunks_flatten (sz := i.size) (n := n) (l := cs) (by rw [← f2.length]; simpa using hlen)
          refine ⟨_, _, _, hrun, g1, g2, ?_, fun s r h => by cases h⟩
          have := RepL.slice (I := addBlock I w.heap.size cells'.toList) (μ := μ) (vs := []) (as := []) w.heap.size 0 n i.size cells'.toList (chunks i.size n cs) .full g3 (by rw [k1]; exact f2.mono g1.le (.refl μ)) k2 (by rw [k3]; exact Nat.le_refl _) (fun _ => k3.symm) .nil
          rwa [k3] at this
        · cases h
      · cases h
    · cases h
  · cases h

/-! ### append -/

theorem lenOf_rep {v : Value} {a : AV} {sz : Nat} {new : List (List AV)} (hv : Rep I μ v a) (h : newRows a = some (sz, new)) (w : World) : (Builtin.lenOf v).run P w = .ok new.length w := by
  unfold newRows at h
  split at h
  · simp only [Option.some.injEq, Prod.mk.injEq] at h
    obtain ⟨rfl, rfl⟩ := h
    cases hv <;> simp [Builtin.lenOf]
  · simp only [Option.some.injEq, Prod.mk.injEq] at h
    obtain ⟨rfl, rfl⟩ := h
    cases hv; simp [Builtin.lenOf]
  · cases h

theorem bytes_rep (l : List UInt8) : RepL I μ (l.map fun b => Value.int .u8 b.toNat) ((l.map fun b => [AV.val (.int .u8 b.toNat)]).flatten) := by
  induction l with
  | nil => exact .nil
  | cons b l ih => exact .val _ ih

/-- What an append takes over: the new rows' values. -/
theorem new_rep {v : Value} {a : AV} {sz : Nat} {new : List (List AV)} (hI : ImmOk I w) (hv : Rep I μ v a) (h : newRows a = some (sz, new)) :
    ∃ ws, RepL I μ ws new.flatten ∧ OneCells ws ∧ ws.length = new.length * sz ∧ (∀ r ∈ new, r.length = sz) ∧
      ∀ w' : World, (∀ b, b < w.heap.size → w'.heap[b]? = w.heap[b]?) → (Builtin.firstCells sz new.length v).run P w' = .ok ws.toArray w' := by
  unfold newRows at h
  split at h
  · simp only [Option.some.injEq, Prod.mk.injEq] at h
    obtain ⟨rfl, rfl⟩ := h
    cases hv with
    | slice0 => exact ⟨[], .nil, fun v hv => by simp at hv, by simp, by simp, fun w' _ => by simp [Builtin.firstCells]⟩
    | slice1 a cap sz own ho _ => exact ⟨[], .nil, fun v hv => by simp at hv, by simp, by simp, fun w' _ => run_firstCells_some (P := P) w' _ 0 a _ _ [] (by simp) (fun j v h => by simp at h)⟩
    | slice b o cap _ ws _ own hr h2 hl hc hf _ =>
      have hlen := h2.length
      rw [flatten_length hl] at hlen
      refine ⟨ws, h2, hr.one hI, hlen, hl, fun w' hk => ?_⟩
      refine run_firstCells_some w' _ _ ⟨b, o, none⟩ _ _ ws hlen fun j v hv => ?_
      rw [add_addr]
      have := hr j v hv
      rw [cell_of_block (hk b (hI.lt this))]
      exact (hI _ _ _ this).1
  · simp only [Option.some.injEq, Prod.mk.injEq] at h
    obtain ⟨rfl, rfl⟩ := h
    rename_i s
    cases hv
    refine ⟨_, bytes_rep s.data.toList, ?_, by simp, by simp, fun w' _ => ?_⟩
    · intro v hv; simp at hv; obtain ⟨b, _, rfl⟩ := hv; rfl
    · simp [Builtin.firstCells]
      apply Array.ext'; simp
  · cases h

theorem dis_flatten (rows : List (List AV)) : (rows.map (·.map AV.dis)).flatten = rows.flatten.map AV.dis := by
  induction rows with
  | nil => rfl
  | cons r rows ih => simp only [List.map_cons, List.flatten_cons, ih, List.map_append]

/-- The memory of an append in place. -/
def addCells (I : Mem) (b o : Nat) (ws : List Value) : Mem := fun b' o' => if b' = b ∧ o ≤ o' ∧ o' < o + ws.length then ws[o' - o]? else I b' o'

theorem setRow_block (w : World) (g : Nat) (c : Array Value) {b : Nat} (h : b ≠ g) : (w.setRow g c).heap[b]? = w.heap[b]? := by
  simp only [World.setRow, Array.getElem?_modify]
  rw [if_neg (by omega)]

theorem append_grow_run {t u ty e : TypeId} {ts : Array TypeId} (h0 : ts[0]? = some t) (h1 : ts[1]? = some u) {xd : TypeDesc} (ht : P.underlying t = some (.slice e)) (hu : P.underlying u = some xd) (hxd : ∀ k, xd ≠ .int k)
    {i : TypeInfo} (hi : P.info? e = some i) {z : Value} (hz : i.zero = some z) {base : Option Addr} {sLen sCap n : Nat} {x : Value} {olds news : Array Value}
    (hlen : (Builtin.lenOf x).run P w = .ok n w) (holds : (Builtin.firstCells i.size sLen (.slice base sLen sCap)).run P w.drew = .ok olds w.drew)
    (hnews : (Builtin.firstCells i.size n x).run P w.drew = .ok news w.drew)
    (hg : sCap < sLen + n) (h63 : ((sLen + n : Nat) : Int) ≤ 9223372036854775807) (hfit : Builtin.nextslicecap (sLen + n) sCap * i.bytes ≤ 281474976710656) :
    (Builtin.append_ ts ty #[.slice base sLen sCap, x]).run P w =
      .ok (.slice (some ⟨w.heap.size, 0, none⟩) (sLen + n) (grownCap w (sLen + n) sCap e))
        (w.drew.alloc (.cells (olds ++ news ++ Builtin.zeroCells z.cells (grownCap w (sLen + n) sCap e - (sLen + n))) e)) := by
  have hn : ¬ (sLen + n ≤ sCap) := by omega
  have h63' : ¬ (9223372036854775807 < ((sLen : Int) + (n : Int))) := by omega
  have h48' : ¬ (281474976710656 < Builtin.nextslicecap (sLen + n) sCap * i.bytes) := by omega
  have hm : (xd matches .int _) = false := by cases xd <;> first | rfl | exact absurd rfl (hxd _)
  simp [Builtin.append_, h0, h1, run_underlying ht, run_underlying hu, hm, sizeOf, typeInfo, zeroValue, hi, hz, hlen, hn, h63', h48', Question.forced, holds, hnews, newRow, grownCap]

theorem append_room_run {t u ty e : TypeId} {ts : Array TypeId} (h0 : ts[0]? = some t) (h1 : ts[1]? = some u) {xd : TypeDesc} (ht : P.underlying t = some (.slice e)) (hu : P.underlying u = some xd) (hxd : ∀ k, xd ≠ .int k)
    {i : TypeInfo} (hi : P.info? e = some i) {base : Option Addr} {sLen sCap n : Nat} {x : Value} {news : List Value}
    (hlen : (Builtin.lenOf x).run P w = .ok n w) (hnews : (Builtin.firstCells i.size n x).run P w = .ok news.toArray w) (hroom : sLen + n ≤ sCap) {w' : World}
    (hst : ∀ a, base = some a → (storeCells (a.add (sLen * i.size)) news).run P w = .ok () w') (hno : base = none → w' = w) :
    (Builtin.append_ ts ty #[.slice base sLen sCap, x]).run P w = .ok (.slice base (sLen + n) sCap) w' := by
  have hm : (xd matches .int _) = false := by cases xd <;> first | rfl | exact absurd rfl (hxd _)
  cases base with
  | none => rw [hno rfl]; simp [Builtin.append_, h0, h1, run_underlying ht, run_underlying hu, hm, sizeOf, typeInfo, hi, hlen, hroom, hnews]
  | some a => simp [Builtin.append_, h0, h1, run_underlying ht, run_underlying hu, hm, sizeOf, typeInfo, hi, hlen, hroom, hnews, hst a rfl]

theorem first_rep {v : Value} {sz n : Nat} {rows : List (List AV)} {own : Own} (hI : ImmOk I w) (hv : Rep I μ v (.slice sz rows own)) (hsz : sz = n ∨ rows = []) {base : Option Addr} {len cap : Nat} (e : v = .slice base len cap) :
    ∃ ws, RepL I μ ws rows.flatten ∧ OneCells ws ∧ ws.length = rows.length * n ∧ ∀ w' : World, (∀ b, b < w.heap.size → w'.heap[b]? = w.heap[b]?) → (Builtin.firstCells n rows.length (.slice base len cap)).run P w' = .ok ws.toArray w' := by
  rcases hsz with rfl | rfl
  · subst e
    obtain ⟨ws, h1, h2, h3, _, h5⟩ := new_rep (P := P) (a := .slice sz rows own) hI hv rfl
    exact ⟨ws, h1, h2, h3, h5⟩
  · refine ⟨[], .nil, fun v hv => by simp at hv, by simp, fun w' _ => ?_⟩
    cases base with
    | none => simp [Builtin.firstCells]
    | some a => simpa using run_firstCells_some (P := P) w' n 0 a len cap [] (by simp) (fun j v h => by simp at h)

theorem aappend_sound (hI : ImmOk I w) {ts : Array TypeId} {ty : TypeId} {va vb : Value} {a b r : AV} (ha : Rep I μ va a) (hb : Rep I μ vb b) (hs : SpareOk I w va a) (h : aappend P ts a b = some r) :
    ∃ v' w' J, (Builtin.append_ ts ty #[va, vb]).run P w = .ok v' w' ∧ Eff I w (fun g => tc g va a ≠ 0) J w' ∧ ImmOk J w' ∧ Rep J μ v' r ∧ SpareOk J w' v' r ∧ ∀ g, g < w.heap.size → tc g v' r ≤ tc g va a := by
  unfold aappend at h
  split at h
  · rename_i t u h0 h1
    split at h
    · rename_i e xd ht hu
      split at h
      · cases h
      · rename_i hxd
        split at h
        · rename_i sz rows own sz' new i hnew hi
          obtain ⟨base, cap, rfl, hcap, hfull⟩ : ∃ base cap, va = .slice base rows.length cap ∧ rows.length ≤ cap ∧ (own = .full → cap = rows.length) := by
            rcases slice_inv ha with ⟨rfl, rfl⟩ | ⟨b, o, cap, ws, rfl, _, _, _, h5, h6⟩ | ⟨rfl, a, cap, rfl, ho⟩
            · exact ⟨_, _, rfl, by simp, by simp⟩
            · exact ⟨_, _, rfl, h5, h6⟩
            · exact ⟨_, _, rfl, by simp, fun hf => by
                rcases ho with h | ⟨_, h⟩
                · rw [hf] at h; cases h
                · exact h⟩
          obtain ⟨ws, n1, n2, n3, n4, n5⟩ := new_rep (P := P) hI hb hnew
          have hlen := lenOf_rep (P := P) hb hnew w
          split at h
          · rename_i hnil
            subst hnil
            simp only [Option.some.injEq] at h; subst h
            simp at n3; subst n3
            have hst : ∀ a, base = some a → (storeCells (a.add (rows.length * i.size)) []).run P w = .ok () w := fun a _ => by simp [storeCells]
            have hf0 : (Builtin.firstCells i.size ([] : List (List AV)).length vb).run P w = .ok ([] : List Value).toArray w := by
              unfold newRows at hnew
              split at hnew
              · simp only [Option.some.injEq, Prod.mk.injEq] at hnew
                obtain ⟨rfl, rfl⟩ := hnew
                cases hb with
                | slice0 => simp [Builtin.firstCells]
                | slice1 a cap _ own ho _ => exact run_firstCells_some (P := P) w i.size 0 a _ _ [] (by simp) (fun j v h => by simp at h)
                | slice b o cap _ ws _ own hr h2 hl hc hf _ => exact run_firstCells_some (P := P) w i.size 0 ⟨b, o, none⟩ _ _ [] (by simp) (fun j v h => by simp at h)
              · simp only [Option.some.injEq, Prod.mk.injEq] at hnew
                obtain ⟨rfl, hs⟩ := hnew
                cases hb; simp [Builtin.firstCells]
              · cases hnew
            exact ⟨_, w, I, append_room_run h0 h1 ht hu hxd hi hlen hf0 (by simpa using hcap) hst (fun _ => rfl), .refl _ _ _, hI, by simpa using ha, by simpa using hs, fun g _ => by simp⟩
          · rename_i hne
            split at h
            · rename_i hc
              obtain ⟨c1, rfl, c3, c4, c5, c6⟩ := hc
              simp only [Option.some.injEq] at h; subst h
              obtain ⟨z, hz, hzs⟩ := Option.map_eq_some_iff.1 c6
              have hpos : 0 < new.length := by cases new with | nil => exact absurd rfl hne | cons => simp
              have hdis : RepL I μ ws (new.map (·.map AV.dis)).flatten := by rw [dis_flatten]; exact n1.dis
              have hrl : (rows ++ new.map (·.map AV.dis)).length = rows.length + new.length := by simp
              obtain ⟨os, o1, o2, o3, o5⟩ := first_rep (P := P) (n := i.size) hI ha (c1.imp id And.left) rfl
              have hrows : ∀ r ∈ rows ++ new.map (·.map AV.dis), r.length = i.size := by
                intro r hr
                rcases List.mem_append.1 hr with hr | hr
                · rcases c1 with rfl | ⟨rfl, _⟩
                  · rcases slice_inv ha with ⟨rfl, _⟩ | ⟨b, o, cap, ws, _, _, _, h4, _, _⟩ | ⟨rfl, _⟩
                    · simp at hr
                    · exact h4 r hr
                    · simp at hr
                  · simp at hr
                · simp at hr
                  obtain ⟨x, hx, rfl⟩ := hr
                  simpa using n4 x hx
              by_cases hroom : rows.length + new.length ≤ cap
              · -- in place
                have hown : own = .yes := by
                  cases own with
                  | no => exact absurd rfl c3
                  | full => have := hfull rfl; omega
                  | yes => rfl
                subst hown
                obtain rfl : sz = i.size := by rcases c1 with h | ⟨_, h⟩; exact h; cases h
                rcases slice_inv ha with ⟨rfl, e0⟩ | ⟨b, o, cap0, ws', e0, hr, h2, hl, hc, hf⟩ | ⟨_, _, _, _, ho⟩
                rotate_left 2
                · rcases ho with h | ⟨h, _⟩ <;> cases h
                · cases e0; simp only [List.length_nil] at hroom; omega
                · cases e0
                  obtain ⟨⟨c, e', hc1, hc2⟩, hI2⟩ := hs b o _ _ _ _ rfl rfl
                  have hmul : (rows.length + new.length) * i.size ≤ cap * i.size := Nat.mul_le_mul_right _ hroom
                  rw [Nat.add_mul] at hmul
                  have hws' : ws'.length = rows.length * i.size := by rw [h2.length, flatten_length hl]
                  have hst := run_storeCells_at P b (o + rows.length * i.size) e' ws 0 c w hc1 (by omega) n2
                  simp only [Nat.add_zero] at hst
                  refine ⟨_, _, addCells I b (o + rows.length * i.size) ws, append_room_run h0 h1 ht hu hxd hi hlen (n5 w fun _ _ => rfl) hroom (fun a ha => by cases ha; rw [add_addr]; exact hst) (fun h => by cases h), ?_, ?_, ?_, ?_, ?_⟩
                  · refine ⟨?_, ?_, ?_, ?_, rfl, rfl, rfl⟩
                    · intro b' o' v hv
                      simp only [addCells]
                      split
                      · rename_i hb'
                        obtain ⟨rfl, hb1, _⟩ := hb'
                        rw [hI2 o' hb1] at hv; cases hv
                      · exact hv
                    · intro b' o' v hv
                      simp only [addCells] at hv
                      split at hv
                      · rename_i hb'; exact .inr (.inr (by simp [tc, hb'.1]))
                      · exact .inl hv
                    · intro b' hb' hn
                      exact setRow_block w b _ (fun hbb => hn (by simp [tc, hbb]))
                    · simp [World.setRow]
                  · intro b' o' v hv
                    simp only [addCells] at hv
                    have hrow := setRow_heap w b c (c.toList.take (o + rows.length * i.size) ++ ws ++ c.toList.drop (o + rows.length * i.size + ws.length)).toArray e' (0, 0) hc1
                    split at hv
                    · rename_i hb'
                      obtain ⟨rfl, hb1, hb2⟩ := hb'
                      refine ⟨?_, n2 v (List.mem_of_getElem? hv)⟩
                      simp only [World.cell?, hrow]
                      simp only [Option.isSome_none, Bool.false_eq_true, if_false, List.getElem?_toArray]
                      rw [List.append_assoc, List.getElem?_append_right (by simp; omega), List.getElem?_append_left (by simp; omega)]
                      rw [← hv]; congr 1; simp; omega
                    · rename_i hb'
                      obtain ⟨hv1, hv2⟩ := hI b' o' v hv
                      refine ⟨?_, hv2⟩
                      by_cases hbb : b' = b
                      · subst hbb
                        have ho' : o' < o + rows.length * i.size := by
                          rcases Nat.lt_or_ge o' (o + rows.length * i.size) with h | h
                          · exact h
                          · rw [hI2 o' h] at hv; cases hv
                        simp only [World.cell?, hrow]
                        simp only [Option.isSome_none, Bool.false_eq_true, if_false, List.getElem?_toArray]
                        rw [List.append_assoc, List.getElem?_append_left (by simp; omega), List.getElem?_take, if_pos ho']
                        simp only [World.cell?, hc1] at hv1
                        simpa using hv1
                      · rw [cell_of_block (setRow_block w b _ (b := b') hbb)]; exact hv1
                  · have hle : LeM I (addCells I b (o + rows.length * i.size) ws) := by
                      intro b' o' v hv
                      simp only [addCells]
                      split
                      · rename_i hb'
                        obtain ⟨rfl, hb1, _⟩ := hb'
                        rw [hI2 o' hb1] at hv; cases hv
                      · exact hv
                    have := RepL.slice (I := addCells I b (o + rows.length * i.size) ws) (μ := μ) (vs := []) (as := []) b o cap i.size (ws' ++ ws) (rows ++ new.map (·.map AV.dis)) .yes ?_ ?_ hrows (by rw [hrl]; exact hroom) (fun h => by cases h) .nil
                    · rwa [hrl] at this
                    · intro j v hv
                      by_cases hj : j < ws'.length
                      · rw [List.getElem?_append_left hj] at hv
                        exact hle _ _ _ (hr j v hv)
                      · rw [List.getElem?_append_right (by omega)] at hv
                        have hj2 := (List.getElem?_eq_some_iff.1 hv).1
                        simp only [addCells, true_and]
                        rw [if_pos ⟨by omega, by omega⟩, ← hv]
                        congr 1; omega
                    · rw [List.flatten_append]
                      exact (h2.mono hle (.refl μ)).append (hdis.mono hle (.refl μ))
                  · intro b' o' len' cap' sz'' rows'' hv ha
                    cases ha
                    cases hv
                    refine ⟨⟨_, e', setRow_heap w b c _ e' (0, 0) hc1, ?_⟩, ?_⟩
                    · simp; omega
                    · intro k hk
                      rw [Nat.add_mul] at hk
                      simp only [addCells]
                      rw [if_neg (by omega)]
                      exact hI2 k (by omega)
                  · intro g _; simp [tc]
              · -- a new block
                have hg : cap < rows.length + new.length := by omega
                have hfit := growslice_fits (old := cap) (need := rows.length + new.length) (bytes := i.bytes) hg (by
                  have := Nat.mul_le_mul c4 c5; omega)
                have hrun := append_grow_run (P := P) (w := w) (ty := ty) h0 h1 ht hu hxd hi hz hlen (o5 w.drew fun _ _ => rfl) (n5 w.drew fun _ _ => rfl) hg (by omega) hfit
                have hcapge := grownCap_ge w (rows.length + new.length) cap e
                obtain ⟨p1, p2, p3⟩ := (pushed_drew w (os.toArray ++ ws.toArray ++ Builtin.zeroCells z.cells (grownCap w (rows.length + new.length) cap e - (rows.length + new.length))) e).imm hI (ws := os ++ ws)
                  (fun j v hv => by
                    have hj := (List.getElem?_eq_some_iff.1 hv).1
                    rw [Array.getElem?_append_left (by simpa using hj)]
                    simpa using hv)
                  (fun v hv => by rcases List.mem_append.1 hv with h | h; exact o2 v h; exact n2 v h) (fun g => tc g (.slice base rows.length cap) (.slice sz rows own) ≠ 0)
                refine ⟨_, _, _, hrun, p1, p2, ?_, ?_, ?_⟩
                · have := RepL.slice (I := addBlock I w.heap.size (os ++ ws)) (μ := μ) (vs := []) (as := []) w.heap.size 0 (grownCap w (rows.length + new.length) cap e) i.size (os ++ ws) (rows ++ new.map (·.map AV.dis)) .yes p3
                    (by rw [List.flatten_append]; exact (o1.mono p1.le (.refl μ)).append (hdis.mono p1.le (.refl μ))) hrows (by rw [hrl]; exact hcapge) (fun h => by cases h) .nil
                  rwa [hrl] at this
                · intro b' o' len' cap' sz'' rows'' hv ha
                  cases ha
                  cases hv
                  refine ⟨⟨_, e, (pushed_drew w _ e).new, ?_⟩, ?_⟩
                  · have e1 : (rows.length + new.length) * i.size = rows.length * i.size + new.length * i.size := Nat.add_mul _ _ _
                    have e2 : (grownCap w (rows.length + new.length) cap e) * i.size = (grownCap w (rows.length + new.length) cap e - (rows.length + new.length)) * i.size + (rows.length + new.length) * i.size := by
                      rw [← Nat.add_mul]; congr 1; omega
                    simp [size_zeroCells, hzs, o3, n3]
                    omega
                  · intro k hk
                    simp only [addBlock, if_true]
                    rw [List.getElem?_eq_none]
                    simp; rw [o3, n3]; rw [Nat.add_mul] at hk; omega
                · intro g hg; simp only [tc]; rw [if_neg (by omega)]; exact Nat.zero_le _
            · cases h
        · cases h
    · cases h
  · cases h

theorem wrap_small {n : Int} (h0 : 0 ≤ n) (h1 : n ≤ 2147483648) : IntKind.i64.wrap n = n := by
  simp [IntKind.wrap, IntKind.bits, IntKind.signed]
  omega

theorem amakeSlice_sound (hI : ImmOk I w) {t : TypeId} {vl vc : Value} {l c r : AV} (hl : Rep I μ vl l) (hc : Rep I μ vc c) (h : amakeSlice P t l c = some r) (A : Nat → Prop) :
    ∃ v' w' J, (Instr.makeSlice t vl vc).run P w = .ok v' w' ∧ Eff I w A J w' ∧ ImmOk J w' ∧ Rep J μ v' r ∧ SpareOk J w' v' r ∧ ∀ g, g < w.heap.size → tc g v' r = 0 := by
  unfold amakeSlice at h
  split at h
  · rename_i e k l k' c hd
    split at h
    · rename_i i hi
      split at h
      · rename_i z hz
        split at h
        · rename_i hb
          obtain ⟨h1, h2, h3, h4, h5, h6, h7⟩ := hb
          simp only [Option.some.injEq] at h; subst h
          cases hl; cases hc
          have hzo : OneCells z.cells.toList := fun v hv => List.all_eq_true.1 h7 v hv
          have hsz : size? P e = some i.size := by simp [size?, hi]
          have hw1 := wrap_small h1 (by omega)
          have hw2 := wrap_small (by omega) h3
          have hbytes : ¬ (281474976710656 < (i.bytes : Int) * c) := by
            have : (i.bytes : Int) * c ≤ 4096 * 2147483648 := by
              have a1 : (i.bytes : Int) * c ≤ (i.bytes : Int) * 2147483648 := Int.mul_le_mul_of_nonneg_left h3 (by omega)
              have a2 : (i.bytes : Int) * 2147483648 ≤ 4096 * 2147483648 := Int.mul_le_mul_of_nonneg_right (by omega) (by omega)
              omega
            omega
          have hneg : ¬ (c < 0) := by omega
          have hneg2 : ¬ (l < 0) := by omega
          have hlc : ¬ (c < l) := by omega
          have hC : ∃ C : Array Value, (Instr.makeSlice t (.int k l) (.int k' c)).run P w = .ok (.slice (some ⟨w.heap.size, 0, none⟩) l.toNat c.toNat) { w with heap := w.heap.push (.cells C e) } ∧ C.toList = (List.replicate c.toNat z.cells.toList).flatten := by
            by_cases hn : c.toNat * i.size = 0
            · have hc0 : c.toNat = 0 := by rcases Nat.mul_eq_zero.1 hn with h | h; exact h; omega
              refine ⟨#[], ?_, by simp [hc0]⟩
              simp [Instr.makeSlice, run_underlying hd, asInt, asIntOf, typeInfo, hi, hw1, hw2, hneg, hneg2, hlc, hbytes, size_run hsz, hn, newRow]
              congr 2; apply Array.ext'; simp
            · refine ⟨(Array.range (c.toNat * z.cells.size)).map (fun k => z.cells[k % z.cells.size]!), ?_, range_mod _ _⟩
              have hzr := zero_run (P := P) (t := e) (z := z) (by simp [hi, hz])
              simp [Instr.makeSlice, run_underlying hd, asInt, asIntOf, typeInfo, hi, hw1, hw2, hneg, hneg2, hlc, hbytes, size_run hsz, hn, hzr, newRow, h6]
          obtain ⟨C, hrun, hCl⟩ := hC
          have hflat : ∀ n, ((List.replicate n z.cells.toList).flatten).length = n * i.size := fun n => by simp [List.length_flatten, h6]
          have hCs : C.size = c.toNat * i.size := by rw [← Array.length_toList, hCl, hflat]
          have hle : l.toNat ≤ c.toNat := by omega
          obtain ⟨p1, p2, p3⟩ := (pushed_alloc w C e).imm hI (ws := (List.replicate l.toNat z.cells.toList).flatten)
            (fun j v hv => by
              have hj := (List.getElem?_eq_some_iff.1 hv).1
              rw [hflat] at hj
              have hj' : j < c.toNat * i.size := Nat.lt_of_lt_of_le hj (Nat.mul_le_mul_right _ hle)
              rw [← Array.getElem?_toList, hCl]
              rw [flatten_replicate_get _ _ _ (by simpa [h6] using hj)] at hv
              rw [flatten_replicate_get _ _ _ (by simpa [h6] using hj')]
              exact hv)
            (replicate_one hzo _) A
          have hrep : RepL (addBlock I w.heap.size (List.replicate l.toNat z.cells.toList).flatten) μ (List.replicate l.toNat z.cells.toList).flatten (List.replicate l.toNat (z.cells.toList.map ofCell)).flatten := replicate_rep (.ofCells _) _
          refine ⟨_, _, _, hrun, p1, p2, ?_, ?_, ?_⟩
          · have := RepL.slice (I := addBlock I w.heap.size (List.replicate l.toNat z.cells.toList).flatten) (μ := μ) (vs := []) (as := []) w.heap.size 0 c.toNat i.size _ (List.replicate l.toNat (z.cells.toList.map ofCell)) (if l = c then .full else .yes) p3 hrep
              (fun r hr => by simp at hr; rw [hr.2]; simp [h6]) (by simpa using hle) (fun h => by split at h; simp [*]; cases h) .nil
            simpa using this
          · intro b' o' len' cap' sz'' rows'' hv ha
            cases hv
            injection ha with e1 e2 e3
            subst e1
            refine ⟨⟨C, e, (pushed_alloc w C e).new, by rw [hCs]; omega⟩, fun k hk => ?_⟩
            simp only [addBlock, if_true]
            rw [List.getElem?_eq_none]
            rw [hflat]; omega
          · intro g hg
            simp only [tc]
            split
            · rename_i e1 e2
              injection e1 with e1 _ _
              injection e1 with e1
              subst e1
              rw [if_neg (by simp; omega)]
            · rfl
        · cases h
      · cases h
    · cases h
  · cases h
end
end Go.Eng
