/-
  THE ENGINE, part 7: one operation's step, but for calls.
-/
import Derived.Test.YtnohjjhgdkpgcaaDoorE6
set_option linter.unusedVariables false
set_option linter.unusedSimpArgs false
namespace Go.Eng

/-- The blocks that a frame may write. -/
def tok (μ : List Nat) (HV : List (List Value)) (H : Heap) (lv : List LV) (lh : List (Option LCell)) (vs : List Value) (tm : List AV) (b : Nat) : Nat :=
  μ.count b + tcss b HV H + zsum (lc b) lv lh + tcs b vs tm

section
variable {P : Program} {I J : Mem} {μ ν : List Nat} {HV : List (List Value)} {lh : List (Option LCell)} {lv : List LV} {w w' : World} {vs : List Value} {tm : List AV} {H : Heap} {A : Nat → Prop}

theorem FInv.eff (h : FInv I μ HV lv w vs tm lh H) (he : Eff I w A J w') (hJ : ImmOk J w') (hA : ∀ b, A b → tok μ HV H lv lh vs tm b = 0) : FInv J μ HV lv w' vs tm lh H := by
  unfold tok at hA
  exact ⟨h.h.eff he hJ fun b hb => by have := hA b hb; omega, ⟨h.tms.1, fun i v a hv ha => (h.tms.2 i v a hv ha).mono he.le (.refl μ)⟩, h.sp.eff he fun b hb => by have := hA b hb; omega, h.ll,
    loc_eff h.lo he (.refl μ) fun b hb => by have := hA b hb; omega, h.one⟩

theorem FInv.dis (h : FInv I μ HV lv w vs tm lh H) (xs : List Operand) (ms : List Bool) (hn : (movedTmps xs ms).Nodup) : FInv I μ HV lv w vs (disT tm xs ms) lh H :=
  ⟨h.h, disT_rep h.tms xs ms, disT_spare h.sp xs ms, h.ll, h.lo, fun b => by have := h.one b; have := moved_count h.tms.1 b xs ms hn; omega⟩

theorem FInv.put (h : FInv I μ HV lv w vs tm lh H) (d : Option Tmp) {v : Value} {r : AV} (hr : TRep I μ lh lv v r) (hs : SpareOk I w v r) (hc : ∀ b, tok μ HV H lv lh vs tm b + tc b v r ≤ 1) :
    FInv I μ HV lv w (putV vs d v) (putT tm d r) lh H := by
  cases d with
  | none => exact h
  | some t =>
    refine ⟨h.h, h.tms.set t hr, h.sp.set h.tms.1 t hs, h.ll, h.lo, fun b => ?_⟩
    have := hc b
    have h2 := tcs_set_le h.tms.1 t v r b
    simp only [putV, putT]
    unfold tok at this
    omega

theorem tok_put_le (hl : vs.length = tm.length) (d : Option Tmp) (v : Value) (r : AV) (b : Nat) : tok μ HV H lv lh (putV vs d v) (putT tm d r) b ≤ tok μ HV H lv lh vs tm b + tc b v r := by
  cases d with
  | none => simp [putV, putT]
  | some t => have := tcs_set_le hl t v r b; simp only [putV, putT]; unfold tok; omega

/-- A step from one state of a frame to the next. -/
structure Stp (I : Mem) (μ : List Nat) (HV : List (List Value)) (lv : List LV) (w : World) (vs : List Value) (tm : List AV) (lh : List (Option LCell)) (H : Heap)
    (J : Mem) (ν : List Nat) (HV' : List (List Value)) (lv' : List LV) (w' : World) (vs' : List Value) (tm' : List AV) (lh' : List (Option LCell)) (H' : Heap) : Prop where
  inv : FInv J ν HV' lv' w' vs' tm' lh' H'
  eff : Eff I w (fun b => 0 < tok μ HV H lv lh vs tm b) J w'
  tok : ∀ b, 0 < tok ν HV' H' lv' lh' vs' tm' b → 0 < tok μ HV H lv lh vs tm b ∨ w.heap.size ≤ b
  mu : LeN μ ν

theorem pure_step (h : FInv I μ HV lv w vs tm lh H) {o : Oper} {ms : List Bool} {r : AV} (hn : (movedTmps o.op.operands.toList ms).Nodup) (hr : apure P o (vals tm o.op.operands.toList ms) = some r) :
    ∃ v' w' J, (execOp (cevals vs) o).run P w = .ok (.value v') w' ∧
      Stp I μ HV lv w vs tm lh H J μ HV lv w' (putV vs o.dst v') (putT (disT tm o.op.operands.toList ms) o.dst r) lh H := by
  obtain ⟨v', w', J, e1, e2, e3, e4, e5, e6⟩ := apure_sound h.h.imm (vals_rep h.tms o.op.operands.toList ms) (vals_spare h.tms h.sp _ ms) hr
  have hd := h.dis o.op.operands.toList ms hn
  have hmc := fun b => moved_count h.tms.1 b o.op.operands.toList ms hn
  have hA : ∀ b, tcs b (o.op.operands.toList.map (cevals vs)) (vals tm o.op.operands.toList ms) ≠ 0 → Eng.tok μ HV H lv lh vs (disT tm o.op.operands.toList ms) b = 0 := fun b hb => by
    have h1 := h.one b
    have h2 := hmc b
    unfold Eng.tok; omega
  have h2 := hd.eff e2 e3 hA
  have hcnt : ∀ b, Eng.tok μ HV H lv lh vs (disT tm o.op.operands.toList ms) b + tc b v' r ≤ 1 := fun b => by
    by_cases hb : b < w.heap.size
    · have := e6 b hb; have := h.one b; have := hmc b; unfold Eng.tok; omega
    · have : Eng.tok μ HV H lv lh vs (disT tm o.op.operands.toList ms) b = 0 := by
        rcases Nat.eq_zero_or_pos (Eng.tok μ HV H lv lh vs (disT tm o.op.operands.toList ms) b) with h0 | h0
        · exact h0
        · exact absurd (hd.lt h0) hb
      have := tc_le b v' r; omega
  refine ⟨v', w', J, e1, h2.put o.dst e4 e5 hcnt, e2.mono fun b hb => ?_, fun b hb => ?_, .refl μ⟩
  · have := hmc b; unfold Eng.tok; omega
  · by_cases hbs : b < w.heap.size
    · left
      have h1 := tok_put_le (μ := μ) (HV := HV) (H := H) (lv := lv) (lh := lh) hd.tms.1 o.dst v' r b
      have := e6 b hbs
      have := hmc b
      unfold Eng.tok at *; omega
    · right; omega

/-! ### a block that is written -/

theorem writeCells_eq : ∀ (new : List AV) (cs : List AV) (off : Nat), off + new.length ≤ cs.length → writeCells cs off new = cs.take off ++ new ++ cs.drop (off + new.length)
  | [], cs, off, h => by simp [writeCells]
  | v :: r, cs, off, h => by
    simp only [List.length_cons] at h
    rw [writeCells, writeCells_eq r _ _ (by simp; omega)]
    apply List.ext_getElem?
    intro j
    simp only [List.getElem?_append, List.getElem?_take, List.getElem?_drop, List.getElem?_set, List.length_append, List.length_take, List.length_set, List.length_cons]
    have e1 : min (off + 1) cs.length = off + 1 := by omega
    have e2 : min off cs.length = off := by omega
    rw [e1, e2]
    by_cases h1 : j < off
    · rw [if_pos (by omega), if_pos (by omega), if_pos (by omega), if_neg (by omega), if_pos (by omega), if_pos (by omega), if_pos (by omega)]
    · by_cases h2 : j = off
      · subst h2
        rw [if_pos (by omega), if_pos (by omega), if_pos (by omega), if_pos rfl, if_pos (by omega), if_pos (by omega), if_neg (by omega)]
        simp
      · by_cases h3 : j < off + 1 + r.length
        · rw [if_pos (by omega), if_neg (by omega), if_pos (by omega), if_neg (by omega)]
          have : j - off = (j - (off + 1)) + 1 := by omega
          rw [this]; simp
        · rw [if_neg (by omega), if_neg (by omega), if_neg (by omega)]
          congr 1; omega

theorem tcs_split {ws : List Value} {cs : List AV} (hl : ws.length = cs.length) (b n : Nat) : tcs b ws cs = tcs b (ws.take n) (cs.take n) + tcs b (ws.drop n) (cs.drop n) := by
  have := zsum_append (tc b) (l := ws.take n) (l' := ws.drop n) (m := cs.take n) (m' := cs.drop n) (by simp [hl])
  simpa using this

theorem AllSpare.append {ws us : List Value} {cs ds : List AV} (hl : ws.length = cs.length) (h : AllSpare I w ws cs) (k : AllSpare I w us ds) : AllSpare I w (ws ++ us) (cs ++ ds) := by
  intro i v a hv ha
  by_cases hi : i < ws.length
  · rw [List.getElem?_append_left hi] at hv
    rw [List.getElem?_append_left (by omega)] at ha
    exact h i v a hv ha
  · rw [List.getElem?_append_right (by omega)] at hv
    rw [List.getElem?_append_right (by omega), ← hl] at ha
    exact k _ v a hv ha

theorem AllSpare.take {ws : List Value} {cs : List AV} (h : AllSpare I w ws cs) (n : Nat) : AllSpare I w (ws.take n) (cs.take n) := by
  intro i v a hv ha
  rw [List.getElem?_take] at hv ha
  split at hv
  · rename_i hi; rw [if_pos hi] at ha; exact h i v a hv ha
  · cases hv

theorem AllSpare.drop {ws : List Value} {cs : List AV} (h : AllSpare I w ws cs) (n : Nat) : AllSpare I w (ws.drop n) (cs.drop n) := by
  intro i v a hv ha
  rw [List.getElem?_drop] at hv ha
  exact h _ v a hv ha

/-- What a stored value brings: its cells, with no more spare places than it has. -/
theorem scells_rep {v : Value} {a : AV} {cs : List AV} (hr : Rep I μ v a) (hs : SpareOk I w v a) (h : a.scells = some cs) :
    RepL I μ v.cells.toList cs ∧ OneCells v.cells.toList ∧ AllSpare I w v.cells.toList cs ∧ ∀ b, tcs b v.cells.toList cs ≤ tc b v a := by
  unfold AV.scells at h
  split at h
  · rename_i sz rows own
    simp only [Option.some.injEq] at h; subst h
    obtain ⟨h1, h2⟩ := cells_rep (cs := [.slice sz rows own]) hr rfl
    have e : v.cells.toList = [v] := by cases hr <;> rfl
    rw [e] at h1 h2 ⊢
    refine ⟨h1, h2, ?_, fun b => by simp [zsum]⟩
    intro i u c hu hc
    cases i with
    | zero => simp at hu hc; subst hu hc; exact hs
    | succ i => simp at hu
  · simp only [Option.map_eq_some_iff] at h
    obtain ⟨l, hl, rfl⟩ := h
    obtain ⟨h1, h2⟩ := cells_rep hr hl
    refine ⟨h1.dis, h2, ?_, fun b => by rw [tcs_dis]; exact Nat.zero_le _⟩
    intro i u c hu hc
    rw [List.getElem?_map] at hc
    cases hx : l[i]? with
    | none => simp [hx] at hc
    | some x => simp [hx] at hc; subst hc; exact SpareOk.dis I w _ _

theorem store_run (hI : ImmOk I w) {b off n : Nat} {ws : List Value} {cs new : List AV} {t : TypeId} {v : Value} {a : AV} (hB : BlockOk I μ w b ws cs) (hr : Rep I μ v a) (hs : SpareOk I w v a) (hn : a.scells = some new)
    (hsz : size? P t = some n) (hl : new.length = n) (hle : off + n ≤ cs.length) (hb : tc b v a = 0) (hb0 : tcs b ws cs = 0) :
    ∃ w' ws', (Instr.storeAt t (.pointer (some ⟨b, off, none⟩)) v).run P w = .ok () w' ∧ Eff I w (fun g => g = b) I w' ∧ ImmOk I w' ∧ BlockOk I μ w' b ws' (writeCells cs off new) ∧
      ∀ g, tcs g ws' (writeCells cs off new) ≤ tcs g ws cs + tc g v a := by
  obtain ⟨⟨e, h1⟩, h2, h3, h4, h5⟩ := hB
  obtain ⟨n1, n2, n3, n4⟩ := scells_rep hr hs hn
  have hlw := h2.length
  have hln := n1.length
  have hst := run_storeCells_at P b off e v.cells.toList 0 ws.toArray w h1 (by simp at hln ⊢; omega) n2
  simp only [Nat.add_zero, List.size_toArray] at hst
  have hrow := setRow_heap w b ws.toArray (ws.take off ++ v.cells.toList ++ ws.drop (off + v.cells.toList.length)).toArray e (0, 0) h1
  have hef : Eff I w (fun g => g = b) I (w.setRow b (ws.take off ++ v.cells.toList ++ ws.drop (off + v.cells.toList.length)).toArray) :=
    ⟨.refl I, fun _ _ _ h => .inl h, fun g _ hg => setRow_block w b _ hg, by simp [World.setRow], rfl, rfl, rfl⟩
  refine ⟨w.setRow b (ws.take off ++ v.cells.toList ++ ws.drop (off + v.cells.toList.length)).toArray, ws.take off ++ v.cells.toList ++ ws.drop (off + v.cells.toList.length), ?_, hef, ?_, ?_, ?_⟩
  · have hne : ¬ (v.cells.size ≠ n) := by simp at hln; omega
    simp [Instr.storeAt, Instr.sureAddr, storeVar, size_run hsz, hst]
    simpa using hne
  · intro b' o v hv
    obtain ⟨x1, x2⟩ := hI b' o v hv
    refine ⟨?_, x2⟩
    by_cases hbb : b' = b
    · subst hbb; rw [h5 o] at hv; cases hv
    · rw [cell_of_block (setRow_block w b _ (b := b') hbb)]; exact x1
  · rw [writeCells_eq _ _ _ (by omega)]
    rw [show off + new.length = off + v.cells.toList.length by omega]
    refine ⟨⟨e, hrow⟩, ((h2.take off).append n1).append (h2.drop _), ?_, ?_, h5⟩
    · intro u hu
      rcases List.mem_append.1 hu with hu | hu
      · rcases List.mem_append.1 hu with hu | hu
        · exact h3 u (List.mem_of_mem_take hu)
        · exact n2 u hu
      · exact h3 u (List.mem_of_mem_drop hu)
    · have k0 : ∀ n, tcs b (ws.take n) (cs.take n) = 0 ∧ tcs b (ws.drop n) (cs.drop n) = 0 := fun n => by have := tcs_split hlw b n; omega
      refine AllSpare.append (by simp [hln, hlw]) (AllSpare.append (by simp [hlw]) ((h4.take off).eff hef fun g hg => by subst hg; exact (k0 off).1) (n3.eff hef fun g hg => by subst hg; have := n4 g; omega)) ((h4.drop _).eff hef fun g hg => by subst hg; exact (k0 _).2)
  · intro g
    rw [writeCells_eq _ _ _ (by omega), show off + new.length = off + v.cells.toList.length by omega]
    have e1 := zsum_append (tc g) (l := ws.take off ++ v.cells.toList) (l' := ws.drop (off + v.cells.toList.length)) (m := cs.take off ++ new) (m' := cs.drop (off + v.cells.toList.length)) (by simp [hln, hlw])
    have e2 := zsum_append (tc g) (l := ws.take off) (l' := v.cells.toList) (m := cs.take off) (m' := new) (by simp [hlw])
    have e3 := tcs_split hlw g off
    have e4 := tcs_split (ws := ws.drop off) (cs := cs.drop off) (by simp [hlw]) g v.cells.toList.length
    rw [List.drop_drop, List.drop_drop] at e4
    have := n4 g
    simp only [tcs] at *
    rw [e1, e2]; omega

theorem set_self {α : Type} {l : List α} {i : Nat} {a : α} (h : l[i]? = some a) : l.set i a = l := by
  apply List.ext_getElem?
  intro j
  rw [List.getElem?_set]
  by_cases hj : i = j
  · subst hj
    obtain ⟨h1, h2⟩ := List.getElem?_eq_some_iff.1 h
    simp [h1, h2]
  · simp [hj]

/-- One of the frame's own variables turns. -/
theorem FInv.setLoc (h : FInv I μ HV lv w vs tm lh H) {l : Nat} {d d' : LV} {c c' : Option LCell} (hd : lv[l]? = some d) (hc : lh[l]? = some c) (he : Eff I w A I w') (hI : ImmOk I w')
    (hA : ∀ g, A g → Eng.tok μ HV H lv lh vs tm g = lc g d c) (hok : LocOk I μ w' d' c') (htr : ∀ v a, TRep I μ lh lv v a → TRep I μ (lh.set l c') (lv.set l d') v a)
    (hcnt : ∀ g, Eng.tok μ HV H lv lh vs tm g + lc g d' c' ≤ 1 + lc g d c) : FInv I μ HV (lv.set l d') w' vs tm (lh.set l c') H := by
  have hz : ∀ g, A g → zsum (lc g) (lv.set l none) (lh.set l none) = 0 ∧ μ.count g + tcss g HV H = 0 ∧ tcs g vs tm = 0 := fun g hg => by
    have h1 := hA g hg
    have h2 := zsum_set (lc g) h.ll (a' := none) (b' := none) hd hc
    have h3 : lc g none none = 0 := rfl
    unfold Eng.tok at h1
    omega
  refine ⟨h.h.eff he hI fun b hb => (hz b hb).2.1, ⟨h.tms.1, fun i v a hv ha => htr v a (h.tms.2 i v a hv ha)⟩, h.sp.eff he fun b hb => (hz b hb).2.2, by simp [h.ll], ?_, ?_⟩
  · intro t dd cc hdd hcc
    by_cases e : l = t
    · subst e
      rw [List.getElem?_set] at hdd hcc
      simp only [if_true] at hdd hcc
      rw [if_pos (List.getElem?_eq_some_iff.1 hd).1] at hdd
      rw [if_pos (List.getElem?_eq_some_iff.1 hc).1] at hcc
      cases hdd; cases hcc; exact hok
    · have hdd' : lv[t]? = some dd := by rw [List.getElem?_set_ne e] at hdd; exact hdd
      have hcc' : lh[t]? = some cc := by rw [List.getElem?_set_ne e] at hcc; exact hcc
      have h1 := h.lo t dd cc hdd' hcc'
      have h2 : ∀ b, A b → lc b dd cc = 0 := fun b hb => by
        have h3 := (hz b hb).1
        have h4 := zsum_get (lc b) (l := lv.set l none) (m := lh.set l none) (i := t) (by rw [List.getElem?_set_ne e]; exact hdd') (by rw [List.getElem?_set_ne e]; exact hcc')
        omega
      have := loc_eff (lv := [dd]) (lh := [cc]) (fun t' d1 c1 hd1 hc1 => by
        cases t' with
        | zero => simp at hd1 hc1; subst hd1 hc1; exact h1
        | succ t' => simp at hd1) he (.refl μ) (fun b hb => by simp [zsum, h2 b hb]) 0 dd cc rfl rfl
      exact this
  · intro g
    have h1 := hcnt g
    have h2 := zsum_set (lc g) h.ll (a' := d') (b' := c') hd hc
    unfold Eng.tok at h1
    omega

theorem tok_setLoc (hl : lv.length = lh.length) {l : Nat} {d d' : LV} {c c' : Option LCell} (hd : lv[l]? = some d) (hc : lh[l]? = some c) (g : Nat) :
    Eng.tok μ HV H (lv.set l d') (lh.set l c') vs tm g + lc g d c = Eng.tok μ HV H lv lh vs tm g + lc g d' c' := by
  have h2 := zsum_set (lc g) hl (a' := d') (b' := c') hd hc
  unfold Eng.tok; omega

/-- What TRep looks at of a variable. -/
theorem TRep.setLoc {l g : Nat} {b : Nat} {ws ws' : List Value} {cs cs' : List AV} (hd : lv[l]? = some (some (b, ws))) (hc : lh[l]? = some (some (g, cs))) {v : Value} {a : AV} (h : TRep I μ lh lv v a) :
    TRep I μ (lh.set l (some (g, cs'))) (lv.set l (some (b, ws'))) v a := by
  cases a with
  | lp t g1 off =>
    obtain ⟨g', cs1, b1, ws1, e1, e2, e3, b', e4, e5⟩ := h
    by_cases e : l = t
    · subst e
      rw [hc] at e1; rw [hd] at e2
      cases e1; cases e2
      exact ⟨g, cs', b, ws', by rw [List.getElem?_set, if_pos rfl, if_pos (List.getElem?_eq_some_iff.1 hc).1], by rw [List.getElem?_set, if_pos rfl, if_pos (List.getElem?_eq_some_iff.1 hd).1], e3, b', e4, e5⟩
    · exact ⟨g', cs1, b1, ws1, by rw [List.getElem?_set_ne e]; exact e1, by rw [List.getElem?_set_ne e]; exact e2, e3, b', e4, e5⟩
  | _ => exact h

theorem TRep.newLoc {l g : Nat} {b : Nat} {ws : List Value} {cs : List AV} {d : LV} {c : Option LCell} (hd : lv[l]? = some d) (hc : lh[l]? = some c) (hg : ∀ g0 cs0, c = some (g0, cs0) → g = g0 + 1) {v : Value} {a : AV} (h : TRep I μ lh lv v a) :
    TRep I μ (lh.set l (some (g, cs))) (lv.set l (some (b, ws))) v a := by
  cases a with
  | lp t g1 off =>
    obtain ⟨g', cs1, b1, ws1, e1, e2, e3, b', e4, e5⟩ := h
    by_cases e : l = t
    · subst e
      rw [hc] at e1
      cases e1
      have := hg g' cs1 rfl
      exact ⟨g, cs, b, ws, by rw [List.getElem?_set, if_pos rfl, if_pos (List.getElem?_eq_some_iff.1 hc).1], by rw [List.getElem?_set, if_pos rfl, if_pos (List.getElem?_eq_some_iff.1 hd).1], by omega, b', e4, fun hgg => by omega⟩
    · exact ⟨g', cs1, b1, ws1, by rw [List.getElem?_set_ne e]; exact e1, by rw [List.getElem?_set_ne e]; exact e2, e3, b', e4, e5⟩
  | _ => exact h

theorem newCells_noOwn {o : Oper} {avs : List AV} {cs : List AV} (h : newCells P o avs = some cs) (ws : List Value) : (∀ b, tcs b ws cs = 0) ∧ ∀ (I : Mem) (w : World), AllSpare I w ws cs := by
  have key : ∀ a ∈ cs, NoOwn a := by
    unfold newCells at h
    split at h
    · unfold zeroCells at h
      split at h
      · split at h
        · simp only [Option.some.injEq] at h; subst h
          intro a ha; simp at ha; obtain ⟨x, _, rfl⟩ := ha; exact ofCell_noOwn x
        · cases h
      · cases h
    · simp only [Option.map_eq_some_iff] at h
      obtain ⟨l, _, rfl⟩ := h
      intro a ha; simp at ha; obtain ⟨x, _, rfl⟩ := ha; exact .dis x
    · cases h
  refine ⟨fun b => ?_, fun I w i v a hv ha => (key a (List.mem_of_getElem? ha)).spare w v⟩
  rcases Nat.eq_zero_or_pos (tcs b ws cs) with h0 | h0
  · exact h0
  · obtain ⟨i, v, a, hv, ha, hp⟩ := tcs_pos h0
    rw [(key a (List.mem_of_getElem? ha)).tc] at hp; omega
end
end Go.Eng
