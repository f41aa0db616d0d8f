/-
  THE ENGINE, part 3: operations that leave the world as it is come to what the interpreter says.
-/
import Derived.Test.YtnohjjhgdkpgcaaDoorE2
import Derived.ChangeKeysEq
import Derived.Laws.Slices
import Derived.Laws.BytesString
set_option linter.unusedVariables false
set_option linter.unusedSimpArgs false
namespace Go.Eng

/-- A slot's value: as Rep, or a pointer into one of the frame's own variables. -/
def TRep (I : Mem) (μ : List Nat) (lh : List (Option LCell)) (lv : List LV) (v : Value) : AV → Prop
  | .lp t g off => ∃ g' cs b ws, lh[t]? = some (some (g', cs)) ∧ lv[t]? = some (some (b, ws)) ∧ g ≤ g' ∧ ∃ b', v = .pointer (some ⟨b', off, none⟩) ∧ (g = g' → b' = b)
  | .any => Rep I μ v .any
  | .val u => Rep I μ v (.val u)
  | .slice sz rows own => Rep I μ v (.slice sz rows own)
  | .ref cs => Rep I μ v (.ref cs)
  | .ptr id off => Rep I μ v (.ptr id off)
  | .func fn f c => Rep I μ v (.func fn f c)
  | .iface t a => Rep I μ v (.iface t a)
  | .agg cs => Rep I μ v (.agg cs)
  | .tuple vs => Rep I μ v (.tuple vs)

section
variable {I : Mem} {μ : List Nat} {lh : List (Option LCell)} {lv : List LV}

theorem TRep.of {v : Value} {a : AV} (h : Rep I μ v a) : TRep I μ lh lv v a := by
  cases a <;> first | exact h | cases h

theorem TRep.rep {v : Value} {a : AV} (h : TRep I μ lh lv v a) (ha : a.isLp = false) : Rep I μ v a := by
  cases a <;> first | exact h | simp [AV.isLp] at ha

theorem TRep.mono {J : Mem} {ν : List Nat} (hI : LeM I J) (hμ : LeN μ ν) {v : Value} {a : AV} (h : TRep I μ lh lv v a) : TRep J ν lh lv v a := by
  cases a <;> first | exact h | exact RepL.mono hI hμ h

theorem TRep.dis {v : Value} {a : AV} (h : TRep I μ lh lv v a) : TRep I μ lh lv v a.dis := by
  cases a with
  | slice sz rows own => cases own <;> first | exact h | exact Rep.dis (a := .slice sz rows .yes) h
  | _ => exact h

/-- A value that owns no spare places. -/
def NoOwn (a : AV) : Prop := ∀ sz rows, a ≠ .slice sz rows .yes

theorem NoOwn.dis (a : AV) : NoOwn a.dis := by
  cases a with
  | slice sz rows own => cases own <;> (intro s r h; simp [AV.dis] at h)
  | _ => intro s r h; simp [AV.dis] at h

theorem NoOwn.tc {a : AV} (h : NoOwn a) (b : Nat) (v : Value) : tc b v a = 0 := by
  cases a with
  | slice sz rows own => cases own <;> first | exact absurd rfl (h sz rows) | (cases v <;> simp [Eng.tc] <;> (rename_i x _ _; cases x <;> simp))
  | _ => cases v <;> simp [Eng.tc]

theorem NoOwn.spare {a : AV} (h : NoOwn a) (w : World) (v : Value) : SpareOk I w v a := fun b o len cap sz rows _ ha => absurd ha (h sz rows)

theorem ofCell_noOwn (v : Value) : NoOwn (ofCell v) := by
  unfold ofCell; split <;> (intro s r h; simp at h)

theorem ofVal_noOwn (v : Value) : NoOwn (ofVal v) := by
  unfold ofVal; split
  · split <;> (intro s r h; simp at h)
  · exact ofCell_noOwn v
end

theorem semVal_run (P : Program) {α : Type} {s : Sem α} {a : α} (h : semVal P s = some a) (w : World) : s.run P w = .ok a w := by
  induction s with
  | pure x => simp [semVal] at h; subst h; rfl
  | program k ih => simp only [semVal] at h; exact ih P h
  | mark m k ih => simp only [semVal] at h; exact ih h
  | _ => simp [semVal] at h

section
variable {P : Program} {I : Mem} {μ : List Nat} {lh : List (Option LCell)} {lv : List LV} {w : World}

theorem size_run {t : TypeId} {n : Nat} (h : size? P t = some n) (w : World) : (sizeOf t).run P w = .ok n w := by
  unfold size? at h
  cases hi : P.info? t with
  | none => simp [hi] at h
  | some i => simp [hi] at h; subst h; simp [sizeOf, typeInfo, hi]

theorem isAgg_run {t : TypeId} {b : Bool} (h : isAgg? P t = some b) (w : World) : (isAgg t).run P w = .ok b w := by
  unfold isAgg? at h
  cases hd : P.underlying t with
  | none => simp [hd] at h
  | some d => simp [hd] at h; subst h; cases d <;> simp [isAgg, run_underlying hd]

theorem add_addr (b o n : Nat) : (⟨b, o, none⟩ : Addr).add n = ⟨b, o + n, none⟩ := by
  unfold Addr.add; split
  · rename_i h; subst h; rfl
  · rfl

/-- Cells that read as values in the world. -/
def CellsAt (w : World) (b o : Nat) (ws : List Value) : Prop := ∀ (i : Nat) v, ws[i]? = some v → w.cell? ⟨b, o + i, none⟩ = some v

theorem ReadAt.cells {b o : Nat} {ws : List Value} (h : ReadAt I b o ws) (hI : ImmOk I w) : CellsAt w b o ws := fun i v hv => (hI _ _ _ (h i v hv)).1

theorem CellsAt.block {b : Nat} {ws : List Value} {e : TypeId} {fz : Nat × Nat} (h : w.heap[b]? = some (.cells ws.toArray e fz)) : CellsAt w b 0 ws := fun i v hv => by
  simp [World.cell?, h, hv]

theorem CellsAt.drop {b o : Nat} {ws : List Value} (h : CellsAt w b o ws) (n : Nat) : CellsAt w b (o + n) (ws.drop n) := fun i v hv => by
  rw [List.getElem?_drop] at hv
  have := h (n + i) v hv
  rwa [← Nat.add_assoc] at this

theorem CellsAt.take {b o : Nat} {ws : List Value} (h : CellsAt w b o ws) (n : Nat) : CellsAt w b o (ws.take n) := fun i v hv => by
  rw [List.getElem?_take] at hv
  split at hv
  · exact h i v hv
  · cases hv

theorem ReadAt.drop {b o : Nat} {ws : List Value} (h : ReadAt I b o ws) (n : Nat) : ReadAt I b (o + n) (ws.drop n) := fun i v hv => by
  rw [List.getElem?_drop] at hv
  have := h (n + i) v hv
  rwa [← Nat.add_assoc] at this

theorem ReadAt.take {b o : Nat} {ws : List Value} (h : ReadAt I b o ws) (n : Nat) : ReadAt I b o (ws.take n) := fun i v hv => by
  rw [List.getElem?_take] at hv
  split at hv
  · exact h i v hv
  · cases hv

theorem OneCells.drop {ws : List Value} (h : OneCells ws) (n : Nat) : OneCells (ws.drop n) := fun v hv => h v (List.mem_of_mem_drop hv)
theorem OneCells.take {ws : List Value} (h : OneCells ws) (n : Nat) : OneCells (ws.take n) := fun v hv => h v (List.mem_of_mem_take hv)

theorem run_loadCells_at {b o : Nat} {ws : List Value} (h : CellsAt w b o ws) : (loadCells ⟨b, o, none⟩ ws.length).run P w = .ok ws.toArray w :=
  run_loadCells_list w _ ws fun j v hv => by rw [add_addr]; exact h j v hv

/-- A read of a variable. -/
theorem readCells_sound {b o : Nat} {ws : List Value} {cs : List AV} {t : TypeId} {off : Nat} {a : AV} (hc : CellsAt w b o ws) (h1 : OneCells ws) (hr : RepL I μ ws cs)
    (h : readCells P t cs off = some a) : ∃ v, (loadVar t ⟨b, o + off, none⟩).run P w = .ok v w ∧ Rep I μ v a ∧ NoOwn a := by
  unfold readCells at h
  split at h
  · rename_i hagg
    split at h
    · rename_i n hn
      split at h
      · rename_i hle
        simp only [Option.some.injEq] at h; subst h
        have hlen : ((ws.drop off).take n).length = n := by simp [hr.length]; omega
        have hrun := run_loadCells_at (P := P) ((hc.drop off).take n)
        rw [hlen] at hrun
        refine ⟨.agg ((ws.drop off).take n).toArray, ?_, .agg _ _ (by simpa using (h1.drop off).take n) (by simpa using ((hr.drop off).take n).dis) .nil, fun s r h => by cases h⟩
        simp [loadVar, isAgg_run hagg, size_run hn, hrun]
      · cases h
    · cases h
  · rename_i hagg
    cases hcs : cs[off]? with
    | none => simp [hcs] at h
    | some c =>
      simp [hcs] at h; subst h
      obtain ⟨v, hv, hrep⟩ := hr.get' hcs
      exact ⟨v, by simp [loadVar, isAgg_run hagg, hc off v hv], hrep.dis, .dis c⟩
  · cases h

theorem part_sound {cs : Array Value} {acs : List AV} {t : TypeId} {off : Nat} {a : AV} (h1 : OneCells cs.toList) (hr : RepL I μ cs.toList acs)
    (h : partA P t acs off = some a) : ∃ v, (part t cs off).run P w = .ok v w ∧ Rep I μ v a ∧ NoOwn a := by
  unfold partA readCells at h
  split at h
  · rename_i hagg
    split at h
    · rename_i n hn
      split at h
      · rename_i hle
        simp only [Option.some.injEq] at h; subst h
        refine ⟨.agg (cs.extract off (off + n)), ?_, .agg _ _ ?_ ?_ .nil, fun s r h => by cases h⟩
        · simp [part, isAgg_run hagg, size_run hn]
        · have : (cs.extract off (off + n)).toList = (cs.toList.drop off).take n := by simp [Array.toList_extract, List.extract]
          rw [this]; exact (h1.drop off).take n
        · have : (cs.extract off (off + n)).toList = (cs.toList.drop off).take n := by simp [Array.toList_extract, List.extract]
          rw [this]; exact ((hr.drop off).take n).dis
      · cases h
    · cases h
  · rename_i hagg
    cases hcs : acs[off]? with
    | none => simp [hcs] at h
    | some c =>
      simp [hcs] at h; subst h
      obtain ⟨v, hv, hrep⟩ := hr.get' hcs
      have hv' : cs[off]? = some v := by simpa using hv
      exact ⟨v, by simp [part, isAgg_run hagg, hv'], hrep.dis, .dis c⟩
  · cases h

theorem afield_sound {v : Value} {a r : AV} {t : TypeId} {i : Nat} (hv : Rep I μ v a) (h : afield P t a i = some r) : ∃ v', (Instr.field t v i).run P w = .ok v' w ∧ Rep I μ v' r ∧ NoOwn r := by
  unfold afield at h
  split at h
  · rename_i fs cs hd
    split at h
    · rename_i f hf
      cases hv with
      | agg vs acs ho h1 _ =>
        obtain ⟨v', hrun, h2, h3⟩ := part_sound (P := P) (w := w) ho h1 h
        exact ⟨v', by simp [Instr.field, run_underlying hd, hf, asAgg, hrun], h2, h3⟩
    · cases h
  · cases h

theorem aindex_sound {v vi : Value} {a ai r : AV} {t : TypeId} (hv : Rep I μ v a) (hi : Rep I μ vi ai) (h : aindex P t a ai = some r) : ∃ v', (Instr.index t v vi).run P w = .ok v' w ∧ Rep I μ v' r ∧ NoOwn r := by
  unfold aindex at h
  split at h
  · rename_i len e cs k i hd
    split at h
    · rename_i hb
      split at h
      · rename_i n hn
        cases hi
        cases hv with
        | agg vs acs ho h1 _ =>
          obtain ⟨v', hrun, h2, h3⟩ := part_sound (P := P) (w := w) ho h1 h
          exact ⟨v', by simp [Instr.index, asIntOf, run_underlying hd, hb, size_run hn, hrun], h2, h3⟩
      · cases h
    · cases h
  · rename_i s k i hd
    split at h
    · rename_i hb
      cases hi; cases hv
      cases hs : s[i.toNat]? with
      | none => simp [hs] at h
      | some x =>
        simp [hs] at h; subst h
        exact ⟨.int .u8 x.toNat, by simp [Instr.index, asIntOf, run_underlying hd, hb, hs], .val _ .nil, fun s r h => by cases h⟩
    · cases h
  · cases h

theorem fieldPlace_run {b o : Nat} {f : Field} {n : Nat} (hn : size? P f.type = some (n + 1)) : (fieldPlace ⟨b, o, none⟩ f).run P w = .ok ⟨b, o + f.offset, none⟩ w := by
  simp [fieldPlace, size_run hn, add_addr]

theorem afieldAddr_sound {v : Value} {a r : AV} {t : TypeId} {i : Nat} (hv : TRep I μ lh lv v a) (h : afieldAddr P t a i = some r) :
    ∃ v', (Instr.fieldAt t v i).run P w = .ok v' w ∧ TRep I μ lh lv v' r ∧ NoOwn r := by
  unfold afieldAddr at h
  split at h
  · rename_i fs hd
    split at h
    · rename_i f hf
      split at h
      · rename_i n hn
        have key : ∀ b o, (Instr.fieldAt t (.pointer (some ⟨b, o, none⟩)) i).run P w = .ok (.pointer (some ⟨b, o + f.offset, none⟩)) w := fun b o => by
          simp [Instr.fieldAt, run_underlying hd, hf, Instr.sureAddr, fieldPlace_run hn]
        split at h
        · rename_i cs
          split at h
          · simp only [Option.some.injEq] at h; subst h
            cases hv with
            | ref b o ws cs hr h2 _ => exact ⟨_, key b o, .of (.ref _ _ _ _ (hr.drop _) (h2.drop _) .nil), fun s r h => by cases h⟩
          · cases h
        · rename_i id o
          simp only [Option.some.injEq] at h; subst h
          cases hv with
          | ptr id off b hb _ => exact ⟨_, key b o, .of (.ptr _ _ _ hb .nil), fun s r h => by cases h⟩
        · rename_i t' g o
          simp only [Option.some.injEq] at h; subst h
          obtain ⟨g', cs, b, ws, e1, e2, e3, b', rfl, e5⟩ := hv
          exact ⟨_, key b' o, ⟨g', cs, b, ws, e1, e2, e3, b', rfl, e5⟩, fun s r h => by cases h⟩
        · cases h
      · cases h
    · cases h
  · cases h

theorem flatten_get {rows : List (List AV)} {sz : Nat} (hl : ∀ r ∈ rows, r.length = sz) {i : Nat} {r : List AV} (h : rows[i]? = some r) : (rows.flatten.drop (i * sz)).take sz = r := by
  induction rows generalizing i with
  | nil => simp at h
  | cons x rows ih =>
    have hx : x.length = sz := hl x (by simp)
    cases i with
    | zero => simp at h; subst h; simp [← hx]
    | succ i =>
      have := ih (fun r hr => hl r (by simp [hr])) (i := i) (by simpa using h)
      rw [List.flatten_cons, Nat.succ_mul, Nat.add_comm, ← List.drop_drop, List.drop_append_of_le_length (by omega), List.drop_of_length_le (l := x) (by omega), List.nil_append]
      exact this

theorem aindexAddr_sound {v vi : Value} {a ai r : AV} {t : TypeId} (hv : TRep I μ lh lv v a) (hi : TRep I μ lh lv vi ai) (h : aindexAddr P t a ai = some r) :
    ∃ v', (Instr.indexAt t v vi).run P w = .ok v' w ∧ TRep I μ lh lv v' r ∧ NoOwn r := by
  unfold aindexAddr at h
  split at h
  · rename_i e k i hd
    split at h
    · rename_i sz rows own
      split at h
      · rename_i h0
        split at h
        · rename_i row hrow
          split at h
          · rename_i hsz
            simp only [Option.some.injEq] at h; subst h
            have hlt := (List.getElem?_eq_some_iff.1 hrow).1
            cases hi
            cases hv with
            | slice0 => simp at hlt
            | slice1 => simp at hlt
            | slice b o cap sz ws rows own hr h2 hl hc hf _ =>
              refine ⟨.pointer (some ⟨b, o + i.toNat * sz, none⟩), ?_, .of (.ref b _ ((ws.drop (i.toNat * sz)).take sz) row ((hr.drop _).take _) ?_ .nil), fun s r h => by cases h⟩
              · have : i < (rows.length : Int) := by omega
                simp [Instr.indexAt, asIntOf, run_underlying hd, h0, this, size_run hsz, add_addr]
              · have := (h2.drop (i.toNat * sz)).take sz
                rwa [flatten_get hl hrow] at this
          · cases h
        · cases h
      · cases h
    · cases h
  · rename_i len e k i hd
    split at h
    · rename_i hb
      split at h
      · rename_i n hn
        have key : ∀ b o, (Instr.indexAt t (.pointer (some ⟨b, o, none⟩)) (.int k i)).run P w = .ok (.pointer (some ⟨b, o + i.toNat * n, none⟩)) w := fun b o => by
          simp [Instr.indexAt, asIntOf, run_underlying hd, hb, Instr.sureAddr, size_run hn, add_addr]
        cases hi
        split at h
        · rename_i cs
          split at h
          · simp only [Option.some.injEq] at h; subst h
            cases hv with
            | ref b o ws cs hr h2 _ => exact ⟨_, key b o, .of (.ref _ _ _ _ (hr.drop _) (h2.drop _) .nil), fun s r h => by cases h⟩
          · cases h
        · rename_i id o
          simp only [Option.some.injEq] at h; subst h
          cases hv with
          | ptr id off b hb _ => exact ⟨_, key b o, .of (.ptr _ _ _ hb .nil), fun s r h => by cases h⟩
        · rename_i t' g o
          simp only [Option.some.injEq] at h; subst h
          obtain ⟨g', cs, b, ws, e1, e2, e3, b', rfl, e5⟩ := hv
          exact ⟨_, key b' o, ⟨g', cs, b, ws, e1, e2, e3, b', rfl, e5⟩, fun s r h => by cases h⟩
        · cases h
      · cases h
    · cases h
  · cases h

def OptRep (I : Mem) (μ : List Nat) (vx : Option Value) (x : Option AV) : Prop := (x = none ∧ vx = none) ∨ ∃ a v, x = some a ∧ vx = some v ∧ Rep I μ v a

theorem bound_sound {a : AV} {v : Value} {dflt most n : Nat} (hx : Rep I μ v a) (h : bound? (some a) dflt most = some n) :
    n ≤ most ∧ ∀ (w : World) c most', most ≤ most' → (Instr.sliceBound v most' c).run P w = .ok n w := by
  unfold bound? at h
  split at h
  · rename_i e; cases e
  · rename_i k i e
    cases e
    cases hx
    split at h
    · rename_i hb; simp only [Option.some.injEq] at h; subst h
      refine ⟨by omega, fun w c most' hm => ?_⟩
      have : i ≤ (most' : Int) := by omega
      simp [Instr.sliceBound, asIntOf, hb, this]
    · cases h
  · cases h

theorem bounds_sound {lo hi : Option AV} {vl vh : Option Value} {len cap h l : Nat} (b : Bool) (hl : OptRep I μ vl lo) (hh : OptRep I μ vh hi) (h1 : bound? hi len len = some h) (h2 : bound? lo 0 h = some l) (hc : len ≤ cap) :
    l ≤ h ∧ h ≤ len ∧ ∀ w : World, (Instr.sliceBounds b len cap vl vh none).run P w = .ok (l, h, cap) w := by
  have H : h ≤ len ∧ ((vh = none ∧ h = len) ∨ ∃ v, vh = some v ∧ ∀ (w : World) c, (Instr.sliceBound v cap c).run P w = .ok h w) := by
    rcases hh with ⟨rfl, rfl⟩ | ⟨a, v, rfl, rfl, hr⟩
    · simp [bound?] at h1; exact ⟨by omega, .inl ⟨rfl, h1.symm⟩⟩
    · obtain ⟨e1, e2⟩ := bound_sound (P := P) hr h1; exact ⟨e1, .inr ⟨v, rfl, fun w c => e2 w c cap hc⟩⟩
  have L : l ≤ h ∧ ((vl = none ∧ l = 0) ∨ ∃ v, vl = some v ∧ ∀ (w : World) c, (Instr.sliceBound v h c).run P w = .ok l w) := by
    rcases hl with ⟨rfl, rfl⟩ | ⟨a, v, rfl, rfl, hr⟩
    · simp [bound?] at h2; exact ⟨by omega, .inl ⟨rfl, h2.symm⟩⟩
    · obtain ⟨e1, e2⟩ := bound_sound (P := P) hr h2; exact ⟨e1, .inr ⟨v, rfl, fun w c => e2 w c h (Nat.le_refl _)⟩⟩
  refine ⟨L.1, H.1, fun w => ?_⟩
  rcases H.2 with ⟨rfl, rfl⟩ | ⟨v1, rfl, e1⟩ <;> rcases L.2 with ⟨rfl, rfl⟩ | ⟨v2, rfl, e2⟩ <;> simp [Instr.sliceBounds, *]

theorem bounds3_sound {lo : Option AV} {m hi : AV} {vl : Option Value} {vm vh : Value} {len cap h l n : Nat} (b : Bool) (hl : OptRep I μ vl lo) (hh : Rep I μ vh hi) (hm : Rep I μ vm m) (h0 : bound? (some m) 0 len = some n)
    (h1 : bound? (some hi) 0 n = some h) (h2 : bound? lo 0 h = some l) (hc : len ≤ cap) :
    l ≤ h ∧ h ≤ n ∧ n ≤ len ∧ ∀ w : World, (Instr.sliceBounds b len cap vl (some vh) (some vm)).run P w = .ok (l, h, n) w := by
  obtain ⟨a1, a2⟩ := bound_sound (P := P) hm h0
  obtain ⟨b1, b2⟩ := bound_sound (P := P) hh h1
  have L : l ≤ h ∧ ((vl = none ∧ l = 0) ∨ ∃ v, vl = some v ∧ ∀ (w : World) c, (Instr.sliceBound v h c).run P w = .ok l w) := by
    rcases hl with ⟨rfl, rfl⟩ | ⟨a, v, rfl, rfl, hr⟩
    · simp [bound?] at h2; exact ⟨by omega, .inl ⟨rfl, h2.symm⟩⟩
    · obtain ⟨e1, e2⟩ := bound_sound (P := P) hr h2; exact ⟨e1, .inr ⟨v, rfl, fun w c => e2 w c h (Nat.le_refl _)⟩⟩
  refine ⟨L.1, b1, a1, fun w => ?_⟩
  have a2' := fun c => a2 w c cap hc
  have b2' := fun c => b2 w c n (Nat.le_refl _)
  rcases L.2 with ⟨rfl, rfl⟩ | ⟨v2, rfl, e2⟩ <;> simp [Instr.sliceBounds, *]

theorem flatten_drop {rows : List (List AV)} {sz : Nat} (hl : ∀ r ∈ rows, r.length = sz) (i : Nat) : (rows.drop i).flatten = rows.flatten.drop (i * sz) := by
  induction rows generalizing i with
  | nil => simp
  | cons x rows ih =>
    have hx : x.length = sz := hl x (by simp)
    cases i with
    | zero => simp
    | succ i =>
      rw [List.drop_succ_cons, ih (fun r hr => hl r (by simp [hr])), List.flatten_cons, Nat.succ_mul, Nat.add_comm, ← List.drop_drop, List.drop_append_of_le_length (by omega), List.drop_of_length_le (l := x) (by omega), List.nil_append]

theorem flatten_take {rows : List (List AV)} {sz : Nat} (hl : ∀ r ∈ rows, r.length = sz) (i : Nat) : (rows.take i).flatten = rows.flatten.take (i * sz) := by
  induction rows generalizing i with
  | nil => simp
  | cons x rows ih =>
    have hx : x.length = sz := hl x (by simp)
    cases i with
    | zero => simp
    | succ i =>
      rw [List.take_succ_cons, List.flatten_cons, ih (fun r hr => hl r (by simp [hr])), List.flatten_cons, Nat.succ_mul, List.take_append, List.take_of_length_le (l := x) (by omega), hx, Nat.add_sub_cancel]

theorem sub_rep {b o sz cap' l n : Nat} {ws : List Value} {rows : List (List AV)} {own : Own} (hr : ReadAt I b o ws) (h2 : RepL I μ ws rows.flatten) (hl : ∀ r ∈ rows, r.length = sz)
    (hn : l + n ≤ rows.length) (hc : n ≤ cap') (hf : own = .full → cap' = n) : Rep I μ (.slice (some ⟨b, o + l * sz, none⟩) n cap') (.slice sz ((rows.drop l).take n) own) := by
  have hl' : ∀ r ∈ rows.drop l, r.length = sz := fun r hr => hl r (List.mem_of_mem_drop hr)
  have e : ((rows.drop l).take n).length = n := by simp; omega
  have := RepL.slice (I := I) (μ := μ) (vs := []) (as := []) b (o + l * sz) cap' sz ((ws.drop (l * sz)).take (n * sz)) ((rows.drop l).take n) own ((hr.drop _).take _)
    (by rw [flatten_take hl', flatten_drop hl]; exact (h2.drop _).take _) (fun r hr => hl' r (List.mem_of_mem_take hr)) (by rw [e]; exact hc) (by rw [e]; exact hf) .nil
  rwa [e] at this

/-- The head address where nothing is left: 'xs[k:]' at the capacity keeps the old address; its rows are none. -/
theorem sub_rep_end {b o sz : Nat} {rows : List (List AV)} {own : Own} (h0 : rows = []) : Rep I μ (.slice (some ⟨b, o, none⟩) 0 0) (.slice sz rows own) := by
  subst h0
  exact RepL.slice (I := I) (μ := μ) (vs := []) (as := []) b o 0 sz [] [] own (fun i v h => by simp at h) .nil (fun r hr => by simp at hr) (Nat.le_refl _) (fun _ => rfl) .nil

theorem slice_run {t e : TypeId} {a : Option Addr} {len cap l h m n : Nat} {vl vh vm : Option Value} (hd : P.underlying t = some (.slice e)) (hn : size? P e = some n)
    (hb : (Instr.sliceBounds true len cap vl vh vm).run P w = .ok (l, h, m) w) :
    (Instr.sliceAt t (.slice a len cap) vl vh vm).run P w = .ok (.slice (if m = l then a else a.map (·.add (l * n))) (h - l) (m - l)) w := by
  simp [Instr.sliceAt, Instr.slice, run_underlying hd, hb, size_run hn]

theorem slice_rep {v : Value} {sz l h m : Nat} {rows : List (List AV)} {own own' : Own} {n : Nat} (hv : Rep I μ v (.slice sz rows own)) (hsz : rows = [] ∨ n = sz) (hlh : l ≤ h) (hh : h ≤ rows.length)
    {a : Option Addr} {len cap : Nat} (e : v = .slice a len cap) (hm : h ≤ m) (hmc : m ≤ cap) (hf : own' = .full → m = h) (hy : own' ≠ .yes) :
    Rep I μ (.slice (if m = l then a else a.map (·.add (l * n))) (h - l) (m - l)) (.slice sz ((rows.drop l).take (h - l)) own') := by
  cases hv with
  | slice0 =>
    cases e
    simp at hh
    obtain rfl : h = 0 := by omega
    obtain rfl : l = 0 := by omega
    obtain rfl : m = 0 := by omega
    simpa using RepL.slice0 (I := I) (μ := μ) (vs := []) (as := []) sz own' .nil
  | slice1 a' cap' sz own ho _ =>
    cases e
    simp at hh
    obtain rfl : h = 0 := by omega
    obtain rfl : l = 0 := by omega
    have ho' : own' = .no ∨ (own' = .full ∧ m = 0) := by
      cases own' with
      | no => exact .inl rfl
      | full => exact .inr ⟨rfl, hf rfl⟩
      | yes => exact absurd rfl hy
    have := RepL.slice1 (I := I) (μ := μ) (vs := []) (as := []) (if m = 0 then a' else a'.add 0) m sz own' ho' .nil
    by_cases hm0 : m = 0
    · subst hm0; simpa using this
    · simpa [hm0] using this
  | slice b o cap' sz ws rows own hr h2 hl' hc hf' _ =>
    cases e
    by_cases hml : m = l
    · subst hml
      obtain rfl : h = m := by omega
      simp only [if_true, Nat.sub_self]
      exact sub_rep_end (by simp)
    · simp only [hml, if_false, Option.map_some, add_addr]
      rcases hsz with rfl | rfl
      · simp at hh
        obtain rfl : h = 0 := by omega
        obtain rfl : l = 0 := by omega
        simp only [Nat.zero_mul, Nat.add_zero, Nat.sub_zero, List.drop_nil, List.take_nil]
        have := RepL.slice (I := I) (μ := μ) (vs := []) (as := []) b o m sz [] [] own' (fun i v h => by simp at h) .nil (fun r hr => by simp at hr) (Nat.zero_le _) (fun h => hf h) .nil
        simpa using this
      · exact sub_rep hr h2 hl' (by omega) (by omega) (fun hfu => by have := hf hfu; omega)

theorem aslice_sound {v : Value} {a r : AV} {t : TypeId} {lo hi mx : Option AV} {vl vh vm : Option Value} (hv : Rep I μ v a) (hl : OptRep I μ vl lo) (hh : OptRep I μ vh hi) (hm : OptRep I μ vm mx)
    (h : aslice P t a lo hi mx = some r) : ∃ v', (Instr.sliceAt t v vl vh vm).run P w = .ok v' w ∧ Rep I μ v' r ∧ NoOwn r := by
  unfold aslice at h
  split at h
  · rename_i s hd
    split at h
    · rename_i hx hb
      rcases hm with ⟨_, rfl⟩ | ⟨_, _, hm1, _⟩
      rotate_left
      · cases hm1
      split at h
      · rename_i l hlo
        simp only [Option.some.injEq] at h; subst h
        cases hv
        obtain ⟨_, _, hrun⟩ := bounds_sound (P := P) false hl hh hb hlo (Nat.le_refl _)
        exact ⟨_, by simp [Instr.sliceAt, Instr.slice, run_underlying hd, hrun w], .val _ .nil, fun s r h => by cases h⟩
      · cases h
    · cases h
  · rename_i e sz rows own hd
    obtain ⟨base, len, cap, rfl⟩ : ∃ b l c, v = .slice b l c := by cases hv <;> exact ⟨_, _, _, rfl⟩
    obtain ⟨rfl, hcap, hfull⟩ : len = rows.length ∧ rows.length ≤ cap ∧ (own = .full → cap = rows.length) := by
      cases hv with
      | slice1 a cap sz own ho _ => exact ⟨rfl, by simp, fun hf => by rcases ho with h | ⟨_, h⟩ <;> simp_all⟩
      | _ => simp_all
    split at h
    · rename_i n hn
      split at h
      · rename_i hsz
        split at h
        · rcases hm with ⟨_, rfl⟩ | ⟨_, _, hm1, _⟩
          rotate_left
          · cases hm1
          split at h
          · rename_i h' hb
            split at h
            · rename_i l hlo
              simp only [Option.some.injEq] at h; subst h
              obtain ⟨h1, h2, hrun⟩ := bounds_sound (P := P) true hl hh hb hlo hcap
              refine ⟨_, slice_run hd hn (hrun w), slice_rep hv hsz h1 h2 rfl (Nat.le_trans h2 hcap) (Nat.le_refl _) ?_ (by split <;> simp), fun s r h => by split at h <;> cases h⟩
              intro hfu
              split at hfu
              · rename_i hc
                rw [hc.1]; exact hfull hc.2
              · cases hfu
            · cases h
          · cases h
        · rcases hm with ⟨hm1, _⟩ | ⟨m', vm', hm1, rfl, hrm⟩
          · cases hm1
          cases hm1
          split at h
          · cases h
          · rcases hh with ⟨hh1, _⟩ | ⟨hi', vh', hh1, rfl, hrh⟩
            · cases hh1
            cases hh1
            split at h
            · rename_i m0 hm0
              split at h
              · rename_i h' hb
                split at h
                · rename_i l hlo
                  simp only [Option.some.injEq] at h; subst h
                  obtain ⟨h1, h2, h3, hrun⟩ := bounds3_sound (P := P) true hl hrh hrm hm0 hb hlo hcap
                  refine ⟨_, slice_run hd hn (hrun w), slice_rep hv hsz h1 (by omega) rfl h2 (by omega) ?_ (by split <;> simp), fun s r h => by split at h <;> cases h⟩
                  intro hfu
                  split at hfu
                  · rename_i hc; exact hc.symm
                  · cases hfu
                · cases h
              · cases h
            · cases h
      · cases h
    · cases h
  · cases h

theorem run_eql (t : TypeId) (x y : Operand) (a b : Value) (d : TypeDesc) (r : Bool) (hd : P.underlying t = some d) (h1 : (eqGuard .eql t x y a b).run P w = .ok () w) (h1' : (eqGuard .neq t x y a b).run P w = .ok () w)
    (h2 : (binOp .eql t a b) = (do pure (.bool (← Op.equal t a b)))) (h2' : (binOp .neq t a b) = (do pure (.bool (!(← Op.equal t a b)))))
    (h3 : (Op.equalIn (9999 + 1) t a b).run P w = .ok r w) :
    (do eqGuard .eql t x y a b; binOp .eql t a b : Sem Value).run P w = .ok (.bool r) w ∧ (do eqGuard .neq t x y a b; binOp .neq t a b : Sem Value).run P w = .ok (.bool (!r)) w := by
  have h4 : (Op.equal t a b).run P w = .ok r w := h3
  simp [h1, h1', h2, h2', h4]

theorem isPtrNil_sound {t : TypeId} {x y : Operand} {va vb : Value} {a b : AV} {r : Bool} (ha : TRep I μ lh lv va a) (hb : TRep I μ lh lv vb b) (h : isPtrNil P t a b = some r) :
    (do eqGuard .eql t x y va vb; binOp .eql t va vb : Sem Value).run P w = .ok (.bool r) w ∧ (do eqGuard .neq t x y va vb; binOp .neq t va vb : Sem Value).run P w = .ok (.bool (!r)) w := by
  unfold isPtrNil at h
  split at h
  all_goals (try (cases h; done))
  all_goals
    rename_i hd
    simp only [Option.some.injEq] at h
    subst h
  · cases ha; cases hb; exact run_eql _ _ _ _ _ _ _ hd rfl rfl rfl rfl (by rw [Op.equalIn]; simp [run_underlying hd])
  · cases ha; cases hb; exact run_eql _ _ _ _ _ _ _ hd rfl rfl rfl rfl (by rw [Op.equalIn]; simp [run_underlying hd])
  · cases ha; obtain ⟨_, _, _, _, _, _, _, _, rfl, _⟩ := hb; exact run_eql _ _ _ _ _ _ _ hd rfl rfl rfl rfl (by rw [Op.equalIn]; simp [run_underlying hd])
  · cases ha; cases hb; exact run_eql _ _ _ _ _ _ _ hd rfl rfl rfl rfl (by rw [Op.equalIn]; simp [run_underlying hd])
  · cases ha; cases hb; exact run_eql _ _ _ _ _ _ _ hd rfl rfl rfl rfl (by rw [Op.equalIn]; simp [run_underlying hd])
  · cases hb; obtain ⟨_, _, _, _, _, _, _, _, rfl, _⟩ := ha; exact run_eql _ _ _ _ _ _ _ hd rfl rfl rfl rfl (by rw [Op.equalIn]; simp [run_underlying hd])
  · cases ha; cases hb; exact run_eql _ _ _ _ _ _ _ hd rfl rfl rfl rfl (by rw [Op.equalIn]; simp [run_underlying hd])
  · cases ha; cases hb; exact run_eql _ _ _ _ _ _ _ hd rfl rfl rfl rfl (by rw [Op.equalIn]; simp [run_underlying hd])
  · cases ha; cases hb; exact run_eql _ _ _ _ _ _ _ hd rfl rfl rfl rfl (by rw [Op.equalIn]; simp [run_underlying hd])
  · cases ha; cases hb; exact run_eql _ _ _ _ _ _ _ hd rfl rfl rfl rfl (by rw [Op.equalIn]; simp [run_underlying hd])

theorem toVal_trep {v w' : Value} {a : AV} (h : TRep I μ lh lv v a) (ha : a.toVal = some w') : v = w' := by
  cases a with
  | lp => simp [AV.toVal] at ha
  | _ => exact toVal_rep h ha

theorem abin_sound {op : BinOp} {t : TypeId} {x y : Operand} {va vb : Value} {a b r : AV} (ha : TRep I μ lh lv va a) (hb : TRep I μ lh lv vb b) (h : abin P op t x y a b = some r) :
    ∃ v', (do eqGuard op t x y va vb; binOp op t va vb : Sem Value).run P w = .ok v' w ∧ Rep I μ v' r ∧ NoOwn r := by
  unfold abin at h
  split at h
  · rename_i ua ub hua hub
    obtain rfl := toVal_trep ha hua
    obtain rfl := toVal_trep hb hub
    simp only [Option.map_eq_some_iff] at h
    obtain ⟨v, hv, rfl⟩ := h
    exact ⟨v, semVal_run P hv w, .ofVal v, ofVal_noOwn v⟩
  · split at h
    · simp only [Option.map_eq_some_iff] at h
      obtain ⟨v, hv, rfl⟩ := h
      exact ⟨_, (isPtrNil_sound ha hb hv).1, .val _ .nil, fun s r h => by cases h⟩
    · simp only [Option.map_eq_some_iff] at h
      obtain ⟨v, hv, rfl⟩ := h
      exact ⟨_, (isPtrNil_sound ha hb hv).2, .val _ .nil, fun s r h => by cases h⟩
    · cases h

theorem bytesOfRows_rep {ws : List Value} {rows : List (List AV)} {l : List UInt8} (h : bytesOfRows rows = some l) (hr : RepL I μ ws rows.flatten) :
    ∃ ns : List Int, ws = ns.map (Value.int .u8) ∧ l = ns.map fun n => UInt8.ofNat n.toNat := by
  induction rows generalizing ws l with
  | nil => simp [bytesOfRows] at h; subst h; cases hr; exact ⟨[], rfl, rfl⟩
  | cons r rows ih =>
    unfold bytesOfRows at h
    split at h
    · rename_i e; cases e
    · rename_i n rest e
      cases e
      simp only [Option.map_eq_some_iff] at h
      obtain ⟨l', hl', rfl⟩ := h
      simp only [List.flatten_cons, List.singleton_append] at hr
      cases ws with
      | nil => cases hr
      | cons w ws =>
        obtain ⟨h1, h2⟩ := hr.uncons
        cases h1
        obtain ⟨ns, rfl, rfl⟩ := ih hl' h2
        exact ⟨n :: ns, rfl, rfl⟩
    · cases h

theorem pushes_eq (ns : List Int) : ∀ s : ByteArray, ns.foldl (fun r n => r.push (UInt8.ofNat n.toNat)) s = ⟨s.data ++ (ns.map fun n => UInt8.ofNat n.toNat).toArray⟩ := by
  induction ns with
  | nil => intro s; simp
  | cons n ns ih => intro s; rw [List.foldl_cons, ih]; simp [ByteArray.push]

theorem flatten_length {rows : List (List AV)} {sz : Nat} (hl : ∀ r ∈ rows, r.length = sz) : rows.flatten.length = rows.length * sz := by
  induction rows with
  | nil => simp
  | cons x rows ih => simp [ih fun r hr => hl r (by simp [hr]), hl x (by simp), Nat.succ_mul, Nat.add_comm]

theorem bytesOfRows_len {rows : List (List AV)} {l : List UInt8} (h : bytesOfRows rows = some l) : ∀ r ∈ rows, r.length = 1 := by
  induction rows generalizing l with
  | nil => simp
  | cons r rows ih =>
    unfold bytesOfRows at h
    split at h
    · rename_i e; cases e
    · rename_i n rest e
      cases e
      simp only [Option.map_eq_some_iff] at h
      obtain ⟨l', hl', rfl⟩ := h
      intro r hr
      simp at hr
      rcases hr with rfl | hr
      · rfl
      · exact ih hl' r hr
    · cases h

theorem aconvert_sound (hI : ImmOk I w) {src dst : TypeId} {v : Value} {a r : AV} (hv : Rep I μ v a) (h : aconvert P src dst a = some r) :
    ∃ v', (convert src dst v).run P w = .ok v' w ∧ Rep I μ v' r ∧ NoOwn r := by
  unfold aconvert at h
  split at h
  · cases hv
    simp only [Option.map_eq_some_iff] at h
    obtain ⟨v, hv, rfl⟩ := h
    exact ⟨v, semVal_run P hv w, .ofVal v, ofVal_noOwn v⟩
  · rename_i sz rows own
    split at h
    · rename_i e hs hd
      split at h
      · rename_i l he hl
        simp only [Option.some.injEq] at h; subst h
        refine ⟨.string ⟨l.toArray⟩, ?_, .val _ .nil, fun s r h => by cases h⟩
        cases hv with
        | slice0 =>
          simp [bytesOfRows] at hl; subst hl
          simp [convert, run_underlying hs, run_underlying hd, run_underlying he, Conv.bytesToString]
          rfl
        | slice1 a cap sz own ho _ =>
          simp [bytesOfRows] at hl; subst hl
          have := run_bytesToString (P := P) w a 0 cap [] (by simp [loadCells, loadCellsFrom])
          rw [pushes_eq] at this
          simp [convert, run_underlying hs, run_underlying hd, run_underlying he, this]
        | slice b o cap sz ws rows own hr h2 hl' hc hf _ =>
          obtain ⟨ns, rfl, rfl⟩ := bytesOfRows_rep hl h2
          have hlen : (ns.map (Value.int .u8)).length = rows.length := by rw [h2.length, flatten_length (bytesOfRows_len hl)]; omega
          have hrun := run_loadCells_at (P := P) (hr.cells hI)
          rw [hlen] at hrun
          have := run_bytesToString w ⟨b, o, none⟩ rows.length cap ns hrun
          rw [pushes_eq] at this
          simp [convert, run_underlying hs, run_underlying hd, run_underlying he, this]
      · cases h
    · cases h
  · cases h

theorem alen_sound {t ty : TypeId} {ts : Array TypeId} (ht : ts[0]? = some t) {v : Value} {a r : AV} (hv : Rep I μ v a) (h : alen P t a = some r) :
    ∃ v', (Builtin.len_ ts ty #[v]).run P w = .ok v' w ∧ Rep I μ v' r ∧ NoOwn r := by
  unfold alen at h
  split at h
  · rename_i e sz rows own hd
    simp only [Option.some.injEq] at h; subst h
    refine ⟨.int .i64 rows.length, ?_, .val _ .nil, fun s r h => by cases h⟩
    cases hv with
    | slice0 => simp [Builtin.len_, ht, run_underlying hd, goInt]
    | slice => simp [Builtin.len_, ht, run_underlying hd, goInt]
    | slice1 => simp [Builtin.len_, ht, run_underlying hd, goInt]
  · rename_i s hd
    simp only [Option.some.injEq] at h; subst h
    cases hv
    exact ⟨.int .i64 s.size, by simp [Builtin.len_, ht, run_underlying hd, goInt], .val _ .nil, fun s r h => by cases h⟩
  · cases h

theorem atypeAssert_sound {t x : TypeId} {ok : Bool} {v : Value} {a r : AV} (hv : Rep I μ v a) (h : atypeAssert P a t ok = some r) :
    ∃ v', (Instr.typeAssert v x t ok).run P w = .ok v' w ∧ Rep I μ v' r ∧ NoOwn r := by
  have hfail : ∀ (z : Value), (P.info? t).bind (·.zero) = some z → (zeroValue t).run P w = .ok z w := fun z hz => by
    cases hi : P.info? t with
    | none => simp [hi] at hz
    | some i => simp [hi] at hz; simp [zeroValue, typeInfo, hi, hz]
  unfold atypeAssert at h
  simp only at h
  split at h
  · cases h
  · cases h
  · rename_i d hnot hd
    split at h
    · rename_i t' av
      cases hv with
      | iface t' v' a h1 _ =>
        split at h
        · rename_i htt
          subst htt
          simp only [Option.some.injEq] at h; subst h
          refine ⟨if ok then .tuple #[v', .bool true] else v', ?_, ?_, ?_⟩
          · cases d <;> first | exact absurd rfl (hnot _) | simp [Instr.typeAssert, run_underlying hd]
          · cases ok
            · exact h1.dis
            · exact .tuple _ _ (.cons h1 (.val _ .nil)) .nil
          · cases ok
            · exact .dis _
            · intro s r h; cases h
        · rename_i htt
          split at h
          · rename_i hok
            subst hok
            split at h
            · rename_i z hz
              simp only [Option.some.injEq] at h; subst h
              refine ⟨.tuple #[z, .bool false], ?_, .tuple _ _ (.cons (.ofVal z) (.val _ .nil)) .nil, fun s r h => by cases h⟩
              cases d <;> first | exact absurd rfl (hnot _) | simp [Instr.typeAssert, run_underlying hd, Ne.symm htt, htt, hfail z hz]
            · cases h
          · cases h
    · cases hv
      split at h
      · rename_i hok
        subst hok
        split at h
        · rename_i z hz
          simp only [Option.some.injEq] at h; subst h
          refine ⟨.tuple #[z, .bool false], ?_, .tuple _ _ (.cons (.ofVal z) (.val _ .nil)) .nil, fun s r h => by cases h⟩
          cases d <;> first | exact absurd rfl (hnot _) | simp [Instr.typeAssert, run_underlying hd, hfail z hz]
        · cases h
      · cases h
    · cases h

theorem aextract_sound {i : Nat} {v : Value} {a r : AV} (hv : Rep I μ v a) (h : aextract a i = some r) : ∃ v', (Instr.extract v i).run P w = .ok v' w ∧ Rep I μ v' r ∧ NoOwn r := by
  unfold aextract at h
  split at h
  · rename_i vs
    cases hv with
    | tuple ws aws h1 _ =>
      cases hc : vs[i]? with
      | none => simp [hc] at h
      | some c =>
        simp [hc] at h; subst h
        obtain ⟨v, hv, hrep⟩ := h1.get' hc
        have hv' : ws[i]? = some v := by simpa using hv
        exact ⟨v, by simp [Instr.extract, hv'], hrep.dis, .dis c⟩
  · rename_i vs
    cases hv
    cases hc : vs[i]? with
    | none => simp [hc] at h
    | some c => simp [hc] at h; subst h; exact ⟨c, by simp [Instr.extract, hc], .ofVal c, ofVal_noOwn c⟩
  · cases h

theorem amakeInterface_sound {t : TypeId} {v : Value} {a r : AV} (hv : TRep I μ lh lv v a) (h : amakeInterface P t a = some r) : ∃ v', (Instr.makeInterface t v).run P w = .ok v' w ∧ Rep I μ v' r ∧ NoOwn r := by
  unfold amakeInterface at h
  split at h
  · cases h
  · cases h
  · rename_i d hnot hd
    split at h
    · cases h
    · rename_i hlp
      simp only [Option.some.injEq] at h; subst h
      refine ⟨.iface t v, ?_, .iface t v a (hv.rep (by simpa using hlp)) .nil, fun s r h => by cases h⟩
      cases d <;> first | exact absurd rfl (hnot _) | simp [Instr.makeInterface, run_underlying hd]

theorem anilCheck_sound {v : Value} {a r : AV} (hv : TRep I μ lh lv v a) (h : anilCheck a = some r) : r = a ∧ ((∃ b o, v = .pointer (some ⟨b, o, none⟩)) ∨ ∃ g f c, v = .func (.func g) f c) ∧ NoOwn r := by
  unfold anilCheck at h
  split at h
  · simp only [Option.some.injEq] at h; subst h; cases hv; exact ⟨rfl, .inl ⟨_, _, rfl⟩, fun s r h => by cases h⟩
  · simp only [Option.some.injEq] at h; subst h; cases hv; exact ⟨rfl, .inl ⟨_, _, rfl⟩, fun s r h => by cases h⟩
  · simp only [Option.some.injEq] at h; subst h; obtain ⟨_, _, _, _, _, _, _, _, rfl, _⟩ := hv; exact ⟨rfl, .inl ⟨_, _, rfl⟩, fun s r h => by cases h⟩
  · simp only [Option.some.injEq] at h; subst h; cases hv; exact ⟨rfl, .inr ⟨_, _, _, rfl⟩, fun s r h => by cases h⟩
  · cases h

/-- Operands, slot by slot. -/
def TRepL (I : Mem) (μ : List Nat) (lh : List (Option LCell)) (lv : List LV) (vs : List Value) (as : List AV) : Prop :=
  vs.length = as.length ∧ ∀ (i : Nat) v a, vs[i]? = some v → as[i]? = some a → TRep I μ lh lv v a

theorem TRepL.uncons {v : Value} {a : AV} {vs : List Value} {as : List AV} (h : TRepL I μ lh lv (v :: vs) (a :: as)) : TRep I μ lh lv v a ∧ TRepL I μ lh lv vs as :=
  ⟨h.2 0 v a rfl rfl, by simpa using h.1, fun i w b hw hb => h.2 (i + 1) w b (by simpa using hw) (by simpa using hb)⟩

theorem TRepL.nil : TRepL I μ lh lv [] [] := ⟨rfl, fun i v a h => by simp at h⟩
theorem TRepL.cons {v : Value} {a : AV} {vs : List Value} {as : List AV} (h : TRep I μ lh lv v a) (k : TRepL I μ lh lv vs as) : TRepL I μ lh lv (v :: vs) (a :: as) := by
  refine ⟨by simp [k.1], fun i w b hw hb => ?_⟩
  cases i with
  | zero => simp at hw hb; subst hw hb; exact h
  | succ i => exact k.2 i w b (by simpa using hw) (by simpa using hb)

theorem TRepL.inv {vs : List Value} {a : AV} {as : List AV} (h : TRepL I μ lh lv vs (a :: as)) : ∃ v vs', vs = v :: vs' ∧ TRep I μ lh lv v a ∧ TRepL I μ lh lv vs' as := by
  cases vs with
  | nil => have := h.1; simp at this
  | cons v vs => exact ⟨v, vs, rfl, h.uncons.1, h.uncons.2⟩

theorem TRepL.inv0 {vs : List Value} (h : TRepL I μ lh lv vs []) : vs = [] := by
  have := h.1; simpa using this

theorem TRepL.repL {vs : List Value} {as : List AV} (h : TRepL I μ lh lv vs as) (ha : as.any AV.isLp = false) : RepL I μ vs as := by
  refine .of_get h.1 fun i v a hv hb => (h.2 i v a hv hb).rep ?_
  have := List.any_eq_false.1 ha a (List.mem_of_getElem? hb)
  simpa using this

theorem allVals_rep {vs ws : List Value} {as : List AV} (h : TRepL I μ lh lv vs as) (ha : allVals as = some ws) : vs = ws := by
  induction as generalizing vs ws with
  | nil => simp [allVals] at ha; rw [h.inv0, ha]
  | cons a as ih =>
    obtain ⟨v, vs', rfl, h1, h2⟩ := h.inv
    unfold allVals at ha
    split at ha
    · rename_i u l hu hl
      simp only [Option.some.injEq] at ha; subst ha
      rw [toVal_trep h1 hu, ih h2 hl]
    · cases ha
end
end Go.Eng
