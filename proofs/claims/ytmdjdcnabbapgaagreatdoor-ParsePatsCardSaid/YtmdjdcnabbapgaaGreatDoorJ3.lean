/- Texts of this proof folded into one: E8 E9 E10 E11 E12. -/
import Derived.Test.YtmdjdcnabbapgaaGreatDoorJ2
section
/-
  THE ENGINE, part 8: steps in a frame's own variables and in the heap.
-/
set_option linter.unusedVariables false
set_option linter.unusedSimpArgs false
namespace Go.Eng
/-- What an operation that is no call hands to its slot. -/
def NextVal (n : Next) (v : Value) : Prop := n = .value v ∨ (n = .skip ∧ v = undef)
section
variable {P : Program} {cfg : FuncId → FCfg} {I J : Mem} {μ ν : List Nat} {HV : List (List Value)} {lh : List (Option LCell)} {lv : List LV} {w w' : World} {vs : List Value} {tm : List AV} {H : Heap} {A : Nat → Prop}
theorem FInv.lv_get (h : FInv I μ HV lv w vs tm lh H) {l : Nat} {c : Option LCell} (hc : lh[l]? = some c) : ∃ d, lv[l]? = some d ∧ LocOk I μ w d c := by
  have hl : l < lv.length := by rw [h.ll]; exact (List.getElem?_eq_some_iff.1 hc).1
  exact ⟨lv[l], List.getElem?_eq_getElem hl, h.lo l _ c (List.getElem?_eq_getElem hl) hc⟩
theorem tok_lt (h : FInv I μ HV lv w vs tm lh H) {b : Nat} (hb : ¬ b < w.heap.size) : tok μ HV H lv lh vs tm b = 0 := by
  rcases Nat.eq_zero_or_pos (tok μ HV H lv lh vs tm b) with h0 | h0
  · exact h0
  · exact absurd (h.lt h0) hb
theorem tok_dis_le (h : FInv I μ HV lv w vs tm lh H) (xs : List Operand) (ms : List Bool) (hn : (movedTmps xs ms).Nodup) (b : Nat) :
    tok μ HV H lv lh vs (disT tm xs ms) b + tcs b (xs.map (cevals vs)) (vals tm xs ms) = tok μ HV H lv lh vs tm b := by
  have := moved_count h.tms.1 b xs ms hn
  unfold tok; omega
theorem loc_step (h : FInv I μ HV lv w vs tm lh H) {f : FuncId} {o : Oper} {ms : List Bool} (hn : (movedTmps o.op.operands.toList ms).Nodup) {l : Nat} {wr : Bool} {c c' : Option LCell} {r : AV}
    (hcl : acls cfg f o (vals tm o.op.operands.toList ms) = .loc l wr) (hc : lh[l]? = some c) (hr : aloc P cfg f o (vals tm o.op.operands.toList ms) c = some (r, c')) :
    ∃ n v' w' lv', (execOp (cevals vs) o).run P w = .ok n w' ∧ NextVal n v' ∧
      Stp I μ HV lv w vs tm lh H I μ HV lv' w' (putV vs o.dst v') (putT (disT tm o.op.operands.toList ms) o.dst r) (lh.set l c') H := by
  have hv := vals_rep h.tms o.op.operands.toList ms
  have hs := vals_spare h.tms h.sp o.op.operands.toList ms
  have hd := h.dis o.op.operands.toList ms hn
  have htd := fun b => tok_dis_le h o.op.operands.toList ms hn b
  obtain ⟨d, hld, hlo⟩ := h.lv_get hc
  generalize hts : disT tm o.op.operands.toList ms = ts at *
  generalize hav : vals tm o.op.operands.toList ms = avs at *
  have hnew : ∀ cs g, newCells P o avs = some cs → (∀ g0 cs0, c = some (g0, cs0) → g = g0 + 1) → o.dst = some l →
      ∃ n v' w' lv', (execOp (cevals vs) o).run P w = .ok n w' ∧ NextVal n v' ∧
        Stp I μ HV lv w vs tm lh H I μ HV lv' w' (putV vs o.dst v') (putT ts o.dst (.lp l g 0)) (lh.set l (some (g, cs))) H := by
    intro cs g hcs hg hdst
    obtain ⟨e, cc, w', e1, e2, e3, e4⟩ := newCells_run hcs hv rfl
    obtain ⟨k1, k2⟩ := newCells_noOwn hcs cc.toList
    obtain ⟨p1, p2, p3⟩ := e2.none h.h.imm (fun _ => False)
    have hok : LocOk I μ w' (some (w.heap.size, cc.toList)) (some (g, cs)) := ⟨⟨e, by simpa using e2.new⟩, e3, e4, k2 I w', p3⟩
    have hlt : ∀ g0, Eng.tok μ HV H lv lh vs ts g0 ≤ 1 := fun g0 => by have := hd.one g0; unfold Eng.tok; exact this
    have h2 := hd.setLoc (d' := some (w.heap.size, cc.toList)) (c' := some (g, cs)) hld hc p1 p2 (fun _ h => h.elim) hok (fun v a hva => hva.newLoc hld hc hg) (fun g0 => by
      simp only [lc, k1]
      have := hlt g0
      by_cases hh : w.heap.size = g0
      · have := tok_lt hd (b := g0) (by omega); simp [hh]; omega
      · simp [hh]; omega)
    have h3 := h2.put o.dst (v := .pointer (some ⟨w.heap.size, 0, none⟩)) (r := .lp l g 0)
      ⟨g, cs, w.heap.size, cc.toList, by rw [List.getElem?_set, if_pos rfl, if_pos (List.getElem?_eq_some_iff.1 hc).1], by rw [List.getElem?_set, if_pos rfl, if_pos (List.getElem?_eq_some_iff.1 hld).1], Nat.le_refl _, _, rfl, fun _ => rfl⟩
      (fun _ _ _ _ _ _ _ h => by cases h) (fun b => by have := h2.one b; unfold Eng.tok; simp only [tc]; omega)
    refine ⟨_, _, w', _, e1, .inl rfl, h3, p1.mono fun _ h => h.elim, fun b hb => ?_, .refl μ⟩
    have t1 := tok_put_le (μ := μ) (HV := HV) (H := H) (lv := lv.set l (some (w.heap.size, cc.toList))) (lh := lh.set l (some (g, cs))) h2.tms.1 o.dst (.pointer (some ⟨w.heap.size, 0, none⟩)) (.lp l g 0) b
    have t2 := tok_setLoc (μ := μ) (HV := HV) (H := H) (vs := vs) (tm := ts) hd.ll (d' := some (w.heap.size, cc.toList)) (c' := some (g, cs)) hld hc b
    have t3 := htd b
    simp only [lc, k1, tc] at t1 t2
    by_cases hh : w.heap.size = b
    · right; omega
    · left; simp only [hh, if_false] at t2; omega
  unfold aloc at hr
  split at hr
  · -- alloc
    rename_i e hop
    split at hr
    · rename_i t cs hdst hcs
      have hlt : t = l := by simp only [acls, hop, hdst] at hcl; split at hcl; cases hcl; split at hcl; cases hcl; rfl; cases hcl
      subst hlt
      split at hr
      · simp only [Option.some.injEq, Prod.mk.injEq] at hr; obtain ⟨rfl, rfl⟩ := hr
        exact hnew cs 0 hcs (fun g0 cs0 e => by simp at e) hdst
      · rename_i g0 cs0
        simp only [Option.some.injEq, Prod.mk.injEq] at hr; obtain ⟨rfl, rfl⟩ := hr
        exact hnew cs (g0 + 1) hcs (fun g1 cs1 e => by cases e; rfl) hdst
    · cases hr
  · -- box
    rename_i e x hop
    split at hr
    · rename_i t cs hdst hcs
      have hlt : t = l := by simp only [acls, hop, hdst] at hcl; split at hcl; cases hcl; split at hcl; cases hcl; rfl; cases hcl
      subst hlt
      split at hr
      · simp only [Option.some.injEq, Prod.mk.injEq] at hr; obtain ⟨rfl, rfl⟩ := hr
        exact hnew cs 0 hcs (fun g0 cs0 e => by simp at e) hdst
      · rename_i g0 cs0
        simp only [Option.some.injEq, Prod.mk.injEq] at hr; obtain ⟨rfl, rfl⟩ := hr
        exact hnew cs (g0 + 1) hcs (fun g1 cs1 e => by cases e; rfl) hdst
    · cases hr
  · -- load
    rename_i t x l' g off hop
    obtain rfl : l' = l := by simp only [acls, hop] at hcl; cases hcl; rfl
    split at hr
    · rename_i g' cs
      split at hr
      · rename_i hgg
        subst hgg
        simp only [hop, Op.operands] at hv hs
        obtain ⟨g1, cs1, b1, ws1, q1, q2, q3, b', q4, q5⟩ := hv.uncons.1
        rw [hc] at q1; cases q1
        rw [hld] at q2; cases q2
        obtain rfl := q5 rfl
        obtain ⟨⟨e, k1⟩, k2, k3, k4, k5⟩ := hlo
        have hcells : CellsAt w b' 0 ws1 := CellsAt.block k1
        split at hr
        · -- moved out
          rename_i hmv
          split at hr
          · rename_i u hagg hu
            simp only [Option.some.injEq, Prod.mk.injEq] at hr; obtain ⟨rfl, rfl⟩ := hr
            obtain ⟨wv, hwv, hwr⟩ := k2.get' hu
            have hrun : (execOp (cevals vs) o).run P w = .ok (.value wv) w := by
              have := hcells off wv hwv
              simp only [Nat.zero_add] at this
              simp [execOp, hop, q4, Instr.loadAt, Instr.sureAddr, loadVar, isAgg_run hagg, this]
            have hsz := zsum_set (tc 0) k2.length (a' := wv) (b' := u.dis) hwv hu
            have hsz' : ∀ g0, tcs g0 ws1 (cs.set off u.dis) + tc g0 wv u = tcs g0 ws1 cs := fun g0 => by
              have := zsum_set (tc g0) k2.length (a' := wv) (b' := u.dis) hwv hu
              rw [set_self hwv, tc_dis] at this
              simpa using this
            have hok : LocOk I μ w (some (b', ws1)) (some (g, cs.set off u.dis)) := by
              refine ⟨⟨e, k1⟩, ?_, k3, ?_, k5⟩
              · have := k2.set off hwr.dis; rwa [set_self hwv] at this
              · have := AllSpare.set k2.length k4 off (SpareOk.dis I w wv u); rwa [set_self hwv] at this
            have h2 := hd.setLoc (A := fun _ => False) (d' := some (b', ws1)) (c' := some (g, cs.set off u.dis)) hld hc (.refl _ _ _) h.h.imm (fun _ h => h.elim) hok (fun v a hva => hva.setLoc hld hc) (fun g0 => by
              have := hd.one g0; have := hsz' g0; simp only [lc]; unfold Eng.tok; omega)
            have h3 := h2.put o.dst (v := wv) (r := u) (.of hwr) (k4 off wv u hwv hu) (fun b => by
              have t2 := tok_setLoc (μ := μ) (HV := HV) (H := H) (vs := vs) (tm := ts) hd.ll (d' := some (b', ws1)) (c' := some (g, cs.set off u.dis)) hld hc b
              have := hd.one b; have := hsz' b
              simp only [lc] at t2; unfold Eng.tok at *; omega)
            refine ⟨_, wv, w, _, hrun, .inl rfl, h3, .refl _ _ _, fun b hb => ?_, .refl μ⟩
            left
            have t1 := tok_put_le (μ := μ) (HV := HV) (H := H) (lv := lv.set l' (some (b', ws1))) (lh := lh.set l' (some (g, cs.set off u.dis))) h2.tms.1 o.dst wv u b
            have t2 := tok_setLoc (μ := μ) (HV := HV) (H := H) (vs := vs) (tm := ts) hd.ll (d' := some (b', ws1)) (c' := some (g, cs.set off u.dis)) hld hc b
            have t3 := htd b
            have := hsz' b
            simp only [lc] at t2; omega
          · cases hr
        · -- read
          simp only [Option.map_eq_some_iff] at hr
          obtain ⟨u, hu, hr⟩ := hr
          simp only [Prod.mk.injEq] at hr; obtain ⟨rfl, rfl⟩ := hr
          obtain ⟨wv, r1, r2, r3⟩ := readCells_sound (P := P) hcells k3 k2 hu
          simp only [Nat.zero_add] at r1
          have hrun : (execOp (cevals vs) o).run P w = .ok (.value wv) w := by
            simp [execOp, hop, q4, Instr.loadAt, Instr.sureAddr, r1]
          have h3 := hd.put o.dst (v := wv) (r := u) (.of r2) (r3.spare w wv) (fun b => by rw [r3.tc]; have := hd.one b; unfold Eng.tok; omega)
          refine ⟨_, wv, w, lv, hrun, .inl rfl, ?_, .refl _ _ _, fun b hb => ?_, .refl μ⟩
          · rw [set_self hc]; exact h3
          · left
            rw [set_self hc] at hb
            have t1 := tok_put_le (μ := μ) (HV := HV) (H := H) (lv := lv) (lh := lh) hd.tms.1 o.dst wv u b
            have t3 := htd b
            rw [r3.tc] at t1; omega
      · cases hr
    · cases hr
  · -- store
    rename_i t x y l' g off a hop
    obtain rfl : l' = l := by simp only [acls, hop] at hcl; cases hcl; rfl
    split at hr
    · rename_i g' cs new n hnew' hsz
      split at hr
      · rename_i hb
        obtain ⟨rfl, hl, hle⟩ := hb
        simp only [Option.some.injEq, Prod.mk.injEq] at hr; obtain ⟨rfl, rfl⟩ := hr
        have hv' := hv
        simp only [hop, Op.operands] at hv hs
        obtain ⟨g1, cs1, b1, ws1, q1, q2, q3, b', q4, q5⟩ := hv.uncons.1
        rw [hc] at q1; cases q1
        rw [hld] at q2; cases q2
        obtain rfl := q5 rfl
        have hva : Rep I μ (cevals vs y) a := hv.uncons.2.uncons.1.repOf (by rintro _ _ _ rfl; simp [AV.scells, AV.cells] at hnew')
        have hsa : SpareOk I w (cevals vs y) a := hs 1 _ _ rfl rfl
        have hlcb : 1 ≤ lc b' (some (b', ws1)) (some (g, cs)) := by simp [lc]
        have hone := h.one b'
        have hget := zsum_get (lc b') hld hc
        have htd' : ∀ b, Eng.tok μ HV H lv lh vs ts b + tc b (cevals vs y) a = Eng.tok μ HV H lv lh vs tm b := fun b => by
          have := htd b
          simp only [hop, Op.operands, List.map_cons, List.map_nil, zsum] at this
          have e : tc b (cevals vs x) (.lp l' g off) = 0 := by unfold tc; split <;> simp_all
          omega
        have hlt : lc b' (some (b', ws1)) (some (g, cs)) ≤ Eng.tok μ HV H lv lh vs ts b' := by unfold Eng.tok; omega
        have htm : ∀ b, Eng.tok μ HV H lv lh vs tm b ≤ 1 := fun b => h.one b
        have hz1 := htd' b'
        have hz2 := htm b'
        have hb0 : tcs b' ws1 cs = 0 := by simp only [lc] at hlt; simp at hlt; simp only [tcs] at *; omega
        obtain ⟨w', ws', s1, s2, s3, s4, s5⟩ := store_run (P := P) h.h.imm hlo hva hsa hnew' hsz hl hle (by omega) hb0
        have hrun : (execOp (cevals vs) o).run P w = .ok .skip w' := by
          simp [execOp, hop, q4, s1]
        have h2 := hd.setLoc (A := fun g => g = b') (d' := some (b', ws')) (c' := some (g, writeCells cs off new)) hld hc s2 s3
          (fun g0 hg0 => by subst hg0; simp only [lc] at *; simp at *; omega) s4 (fun v a hva => hva.setLoc hld hc)
          (fun g0 => by have := htd' g0; have := htm g0; have := s5 g0; simp only [lc]; omega)
        have h3 := h2.put o.dst (v := undef) (r := .val undef) (.of (.val _ .nil)) (fun _ _ _ _ _ _ _ h => by cases h) (fun b => by have := h2.one b; unfold Eng.tok; simp only [tc, undef]; omega)
        refine ⟨_, undef, w', _, hrun, .inr ⟨rfl, rfl⟩, h3, s2.mono fun g0 hg0 => by subst hg0; omega, fun b hb => ?_, .refl μ⟩
        left
        have t1 := tok_put_le (μ := μ) (HV := HV) (H := H) (lv := lv.set l' (some (b', ws'))) (lh := lh.set l' (some (g, writeCells cs off new))) h2.tms.1 o.dst undef (.val undef) b
        have t2 := tok_setLoc (μ := μ) (HV := HV) (H := H) (vs := vs) (tm := ts) hd.ll (d' := some (b', ws')) (c' := some (g, writeCells cs off new)) hld hc b
        have t3 := htd' b
        have := s5 b
        have t4 : tc b undef (.val undef) = 0 := rfl
        simp only [lc] at t2; omega
      · cases hr
    · cases hr
  · cases hr
end
end Go.Eng
end

section
/-
  THE ENGINE, part 9: steps in the heap.
-/
set_option linter.unusedVariables false
set_option linter.unusedSimpArgs false
namespace Go.Eng
section
variable {P : Program} {cfg : FuncId → FCfg} {I J : Mem} {μ ν : List Nat} {HV : List (List Value)} {lh : List (Option LCell)} {lv : List LV} {w w' : World} {vs : List Value} {tm : List AV} {H : Heap} {A : Nat → Prop}
theorem count_two {μ : List Nat} {b : Nat} : ∀ {i j : Nat}, μ[i]? = some b → μ[j]? = some b → i ≠ j → 2 ≤ μ.count b := by
  induction μ with
  | nil => intro i j h; simp at h
  | cons x μ ih =>
    intro i j hi hj hij
    cases i with
    | zero =>
      simp at hi; subst hi
      cases j with
      | zero => exact absurd rfl hij
      | succ j =>
        have : 0 < μ.count x := List.count_pos_iff.2 (List.mem_of_getElem? (by simpa using hj))
        rw [List.count_cons_self]; omega
    | succ i =>
      cases j with
      | zero =>
        simp at hj; subst hj
        have : 0 < μ.count x := List.count_pos_iff.2 (List.mem_of_getElem? (by simpa using hi))
        rw [List.count_cons_self]; omega
      | succ j =>
        have := ih (i := i) (j := j) (by simpa using hi) (by simpa using hj) (by omega)
        have := List.count_le_count_cons (a := b) (b := x) (l := μ)
        omega
theorem HInv.get (h : HInv I μ HV w H) {id : Nat} {cs : List AV} (hc : H[id]? = some cs) : ∃ b ws, μ[id]? = some b ∧ HV[id]? = some ws ∧ BlockOk I μ w b ws cs := by
  have h0 := (List.getElem?_eq_some_iff.1 hc).1
  have h1 : id < μ.length := by rw [h.l1]; exact h0
  have h2 : id < HV.length := by rw [h.l2]; exact h0
  exact ⟨_, _, List.getElem?_eq_getElem h1, List.getElem?_eq_getElem h2, h.ok id _ _ cs (List.getElem?_eq_getElem h1) (List.getElem?_eq_getElem h2) hc⟩
theorem tcss_set (hl : HV.length = H.length) {id : Nat} {ws ws' : List Value} {cs cs' : List AV} (hw : HV[id]? = some ws) (hc : H[id]? = some cs) (g : Nat) :
    tcss g (HV.set id ws') (H.set id cs') + tcs g ws cs = tcss g HV H + tcs g ws' cs' := zsum_set (tcs g) hl hw hc
/-- One block of the heap turns. -/
theorem FInv.setHeap (h : FInv I μ HV lv w vs tm lh H) {id b : Nat} {ws ws' : List Value} {cs cs' : List AV} (hm : μ[id]? = some b) (hw : HV[id]? = some ws) (hc : H[id]? = some cs)
    (he : Eff I w A I w') (hI : ImmOk I w') (hA : ∀ g, A g → g = b) (hok : BlockOk I μ w' b ws' cs')
    (hcnt : ∀ g, Eng.tok μ HV H lv lh vs tm g + tcs g ws' cs' ≤ 1 + tcs g ws cs) : FInv I μ (HV.set id ws') lv w' vs tm lh (H.set id cs') := by
  have hcb : 0 < μ.count b := List.count_pos_iff.2 (List.mem_of_getElem? hm)
  have hone := h.one b
  have hz : ∀ g, A g → g = b ∧ tcss g HV H = 0 ∧ zsum (lc g) lv lh = 0 ∧ tcs g vs tm = 0 := fun g hg => by
    have := hA g hg
    subst this
    exact ⟨rfl, by omega, by omega, by omega⟩
  refine ⟨⟨hI, by simp [h.h.l1], by simp [h.h.l2], ?_⟩, ⟨h.tms.1, fun i v a hv ha => h.tms.2 i v a hv ha⟩, h.sp.eff he fun g hg => (hz g hg).2.2.2, h.ll, loc_eff h.lo he (.refl μ) fun g hg => (hz g hg).2.2.1, fun g => ?_⟩
  · intro j b2 ws2 cs2 hj1 hj2 hj3
    by_cases e : id = j
    · subst e
      rw [hm] at hj1; cases hj1
      rw [List.getElem?_set, if_pos rfl, if_pos (List.getElem?_eq_some_iff.1 hw).1] at hj2
      rw [List.getElem?_set, if_pos rfl, if_pos (List.getElem?_eq_some_iff.1 hc).1] at hj3
      cases hj2; cases hj3; exact hok
    · rw [List.getElem?_set_ne e] at hj2 hj3
      refine (h.h.ok j b2 ws2 cs2 hj1 hj2 hj3).eff he (.refl μ) (fun hAb => ?_) (fun g hg => ?_)
      · obtain ⟨rfl, _⟩ := hz b2 hAb
        have := count_two hm hj1 e
        omega
      · have h1 := (hz g hg).2.1
        have h2 := zsum_get (tcs g) hj2 hj3
        simp only [tcss] at h1; omega
  · have h1 := hcnt g
    have h2 := tcss_set h.h.l2 (ws' := ws') (cs' := cs') hw hc g
    unfold Eng.tok at h1; omega
theorem tok_setHeap (hl : HV.length = H.length) {id : Nat} {ws ws' : List Value} {cs cs' : List AV} (hw : HV[id]? = some ws) (hc : H[id]? = some cs) (g : Nat) :
    Eng.tok μ (HV.set id ws') (H.set id cs') lv lh vs tm g + tcs g ws cs = Eng.tok μ HV H lv lh vs tm g + tcs g ws' cs' := by
  have h2 := tcss_set hl (ws' := ws') (cs' := cs') hw hc g
  unfold Eng.tok; omega
/-- A new block of the heap. -/
theorem FInv.newHeap (h : FInv I μ HV lv w vs tm lh H) {n : Nat} {ws : List Value} {cs : List AV} (he : Eff I w (fun _ => False) I w') (hI : ImmOk I w') (hn : n = w.heap.size) (hok : BlockOk I μ w' n ws cs) (hcs : ∀ g, tcs g ws cs = 0) :
    FInv I (μ ++ [n]) (HV ++ [ws]) lv w' vs tm lh (H ++ [cs]) := by
  have hmu := LeN.append μ [n]
  have h0 := tok_lt h (b := n) (by omega)
  refine ⟨⟨hI, by simp [h.h.l1], by simp [h.h.l2], ?_⟩, ⟨h.tms.1, fun i v a hv ha => (h.tms.2 i v a hv ha).mono (.refl I) hmu⟩, h.sp.eff he fun _ h => h.elim, h.ll, loc_eff h.lo he hmu fun _ h => h.elim, fun g => ?_⟩
  · intro j b2 ws2 cs2 hj1 hj2 hj3
    by_cases e : j < H.length
    · rw [List.getElem?_append_left (by rw [h.h.l1]; exact e)] at hj1
      rw [List.getElem?_append_left (by rw [h.h.l2]; exact e)] at hj2
      rw [List.getElem?_append_left e] at hj3
      exact (h.h.ok j b2 ws2 cs2 hj1 hj2 hj3).eff he hmu (fun h => h) (fun _ h => h.elim)
    · rw [List.getElem?_append_right (by rw [h.h.l1]; omega)] at hj1
      rw [List.getElem?_append_right (by rw [h.h.l2]; omega)] at hj2
      rw [List.getElem?_append_right (by omega)] at hj3
      have hj : j - H.length = 0 := by
        have := (List.getElem?_eq_some_iff.1 hj3).1
        simp at this; omega
      rw [h.h.l1, hj] at hj1
      rw [h.h.l2, hj] at hj2
      rw [hj] at hj3
      simp at hj1 hj2 hj3
      subst hj1 hj2 hj3
      obtain ⟨k1, k2, k3, k4, k5⟩ := hok
      exact ⟨k1, k2.mono (.refl I) hmu, k3, k4, k5⟩
  · have h1 := zsum_append (tcs g) (l := HV) (l' := [ws]) (m := H) (m' := [cs]) h.h.l2
    have h2 := h.one g
    simp only [zsum, hcs] at h1
    rw [List.count_append]
    simp only [tcss] at *
    by_cases e : n = g
    · subst e
      unfold Eng.tok at h0
      simp only [tcss] at h0
      simp; omega
    · simp [e]; omega
theorem glob_mem_step (h : FInv I μ HV lv w vs tm lh H) {f : FuncId} {o : Oper} {ms : List Bool} {call : FuncId → List AV → RM → Heap → Option CRes} (hn : (movedTmps o.op.operands.toList ms).Nodup) {g g' : G} {r : AV} (hg : g.H = H)
    (hop : (∃ e, o.op = .alloc e) ∨ (∃ e x, o.op = .box e x) ∨ (∃ t a, o.op = .load t a) ∨ (∃ t a x, o.op = .store t a x))
    (hr : aglob P cfg call f o (vals tm o.op.operands.toList ms) g = some (.val r g')) :
    ∃ n v' w' ν HV', (execOp (cevals vs) o).run P w = .ok n w' ∧ NextVal n v' ∧ g'.defers = g.defers ∧ g'.rm = g.rm ∧
      Stp I μ HV lv w vs tm lh H I ν HV' lv w' (putV vs o.dst v') (putT (disT tm o.op.operands.toList ms) o.dst r) lh g'.H := by
  subst hg
  have hv := vals_rep h.tms o.op.operands.toList ms
  have hs := vals_spare h.tms h.sp o.op.operands.toList ms
  have hd := h.dis o.op.operands.toList ms hn
  have htd := fun b => tok_dis_le h o.op.operands.toList ms hn b
  generalize hts : disT tm o.op.operands.toList ms = ts at *
  generalize hav : vals tm o.op.operands.toList ms = avs at *
  have hnew : ∀ cs, newCells P o avs = some cs → r = .ptr g.H.length 0 → g' = { g with H := g.H ++ [cs] } →
      ∃ n v' w' ν HV', (execOp (cevals vs) o).run P w = .ok n w' ∧ NextVal n v' ∧ g'.defers = g.defers ∧ g'.rm = g.rm ∧
      Stp I μ HV lv w vs tm lh g.H I ν HV' lv w' (putV vs o.dst v') (putT ts o.dst r) lh g'.H := by
    intro cs hcs hr' hg'
    subst hr' hg'
    obtain ⟨e, cc, w', e1, e2, e3, e4⟩ := newCells_run hcs hv rfl
    obtain ⟨k1, k2⟩ := newCells_noOwn hcs cc.toList
    obtain ⟨p1, p2, p3⟩ := e2.none h.h.imm (fun _ => False)
    have h2 := hd.newHeap p1 p2 rfl (ws := cc.toList) (cs := cs) ⟨⟨e, by simpa using e2.new⟩, e3, e4, k2 I w', p3⟩ k1
    have h3 := h2.put o.dst (v := .pointer (some ⟨w.heap.size, 0, none⟩)) (r := .ptr g.H.length 0) (.of (.ptr _ _ _ (by rw [← h.h.l1]; simp) .nil)) (fun _ _ _ _ _ _ _ h => by cases h) (fun b => by have := h2.one b; unfold Eng.tok; simp only [tc]; omega)
    refine ⟨_, _, w', _, _, e1, .inl rfl, rfl, rfl, h3, p1.mono fun _ h => h.elim, fun b hb => ?_, LeN.append _ _⟩
    have t1 := tok_put_le (μ := μ ++ [w.heap.size]) (HV := HV ++ [cc.toList]) (H := g.H ++ [cs]) (lv := lv) (lh := lh) h2.tms.1 o.dst (.pointer (some ⟨w.heap.size, 0, none⟩)) (.ptr g.H.length 0) b
    have t3 := htd b
    have t4 := zsum_append (tcs b) (l := HV) (l' := [cc.toList]) (m := g.H) (m' := [cs]) h.h.l2
    simp only [zsum, k1] at t4
    by_cases hh : w.heap.size = b
    · right; omega
    · left
      have : Eng.tok (μ ++ [w.heap.size]) (HV ++ [cc.toList]) (g.H ++ [cs]) lv lh vs ts b = Eng.tok μ HV g.H lv lh vs ts b := by
        unfold Eng.tok; rw [List.count_append]; simp only [tcss]; rw [t4]; simp [hh]
      simp only [tc] at t1 hb; omega
  rcases hop with ⟨e, hop⟩ | ⟨e, x, hop⟩ | ⟨t, x, hop⟩ | ⟨t, x, y, hop⟩
  · simp only [aglob, hop] at hr
    split at hr
    · rename_i cs hcs
      simp only [Option.some.injEq, GR.val.injEq] at hr
      exact hnew cs hcs hr.1.symm hr.2.symm
    · cases hr
  · simp only [aglob, hop] at hr
    split at hr
    · rename_i cs hcs
      simp only [Option.some.injEq, GR.val.injEq] at hr
      exact hnew cs hcs hr.1.symm hr.2.symm
    · cases hr
  · unfold aglob at hr
    simp only [hop] at hr
    split at hr
    all_goals (try (rename_i e; cases e; done))
    · rename_i t' x' id off e
      cases e
      split at hr
      · rename_i cs hcs
        simp only [hop, Op.operands] at hv hs
        obtain ⟨b, ws, q1, q2, q3⟩ := hd.h.get hcs
        have hptr : cevals vs x = .pointer (some ⟨b, off, none⟩) := by
          have := hv.uncons.1
          generalize cevals vs x = u at this
          cases this with
          | ptr _ _ b2 hb2 _ => rw [q1] at hb2; cases hb2; rfl
        obtain ⟨⟨e, k1⟩, k2, k3, k4, k5⟩ := q3
        have hcells : CellsAt w b 0 ws := CellsAt.block k1
        split at hr
        · split at hr
          · rename_i u hagg hu
            simp only [Option.some.injEq, GR.val.injEq] at hr; obtain ⟨rfl, rfl⟩ := hr
            obtain ⟨wv, hwv, hwr⟩ := k2.get' hu
            have hrun : (execOp (cevals vs) o).run P w = .ok (.value wv) w := by
              have := hcells off wv hwv
              simp only [Nat.zero_add] at this
              simp [execOp, hop, hptr, Instr.loadAt, Instr.sureAddr, loadVar, isAgg_run hagg, this]
            have hsz' : ∀ g0, tcs g0 ws (cs.set off u.dis) + tc g0 wv u = tcs g0 ws cs := fun g0 => by
              have := zsum_set (tc g0) k2.length (a' := wv) (b' := u.dis) hwv hu
              rw [set_self hwv, tc_dis] at this
              simpa using this
            have hok : BlockOk I μ w b ws (cs.set off u.dis) := by
              refine ⟨⟨e, k1⟩, ?_, k3, ?_, k5⟩
              · have := k2.set off hwr.dis; rwa [set_self hwv] at this
              · have := AllSpare.set k2.length k4 off (SpareOk.dis I w wv u); rwa [set_self hwv] at this
            have h2 := hd.setHeap (A := fun _ => False) (ws' := ws) (cs' := cs.set off u.dis) q1 q2 hcs (.refl _ _ _) h.h.imm (fun _ h => h.elim) hok (fun g0 => by
              have := hd.one g0; have := hsz' g0; unfold Eng.tok; omega)
            have t2' := fun b => tok_setHeap (μ := μ) (lv := lv) (lh := lh) (vs := vs) (tm := ts) h.h.l2 (ws' := ws) (cs' := cs.set off u.dis) q2 hcs b
            have h3 := h2.put o.dst (v := wv) (r := u) (.of hwr) (k4 off wv u hwv hu) (fun b => by
              have t2 := t2' b
              have := hd.one b; have := hsz' b
              unfold Eng.tok at *; omega)
            refine ⟨_, wv, w, μ, _, hrun, .inl rfl, rfl, rfl, h3, .refl _ _ _, fun b hb => ?_, .refl μ⟩
            left
            have t1 := tok_put_le (μ := μ) (HV := HV.set id ws) (H := g.H.set id (cs.set off u.dis)) (lv := lv) (lh := lh) h2.tms.1 o.dst wv u b
            have t2 := t2' b
            have t3 := htd b
            have := hsz' b
            simp only at hb; omega
          · cases hr
        · simp only [Option.map_eq_some_iff] at hr
          obtain ⟨u, hu, hr⟩ := hr
          simp only [GR.val.injEq] at hr; obtain ⟨rfl, rfl⟩ := hr
          obtain ⟨wv, r1, r2, r3⟩ := readCells_sound (P := P) hcells k3 k2 hu
          simp only [Nat.zero_add] at r1
          have hrun : (execOp (cevals vs) o).run P w = .ok (.value wv) w := by
            simp [execOp, hop, hptr, Instr.loadAt, Instr.sureAddr, r1]
          have h3 := hd.put o.dst (v := wv) (r := u) (.of r2) (r3.spare w wv) (fun b => by rw [r3.tc]; have := hd.one b; unfold Eng.tok; omega)
          refine ⟨_, wv, w, μ, HV, hrun, .inl rfl, rfl, rfl, h3, .refl _ _ _, fun b hb => ?_, .refl μ⟩
          left
          have t1 := tok_put_le (μ := μ) (HV := HV) (H := g.H) (lv := lv) (lh := lh) hd.tms.1 o.dst wv u b
          have t3 := htd b
          rw [r3.tc] at t1; omega
      · cases hr
    · cases hr
  · unfold aglob at hr
    simp only [hop] at hr
    split at hr
    all_goals (try (rename_i e; cases e; done))
    · rename_i t' x' y' id off a e
      cases e
      split at hr
      · rename_i cs new n hcs hnew' hsz
        split at hr
        · rename_i hb
          obtain ⟨hl, hle⟩ := hb
          simp only [Option.some.injEq, GR.val.injEq] at hr; obtain ⟨rfl, rfl⟩ := hr
          have hv' := hv
          simp only [hop, Op.operands] at hv hs
          obtain ⟨b, ws, q1, q2, q3⟩ := hd.h.get hcs
          have hptr : cevals vs x = .pointer (some ⟨b, off, none⟩) := by
            have := hv.uncons.1
            generalize cevals vs x = u at this
            cases this with
            | ptr _ _ b2 hb2 _ => rw [q1] at hb2; cases hb2; rfl
          have hva : Rep I μ (cevals vs y) a := hv.uncons.2.uncons.1.repOf (by rintro _ _ _ rfl; simp [AV.scells, AV.cells] at hnew')
          have hsa : SpareOk I w (cevals vs y) a := hs 1 _ _ rfl rfl
          have hcb : 0 < μ.count b := List.count_pos_iff.2 (List.mem_of_getElem? q1)
          have htd' : ∀ b, Eng.tok μ HV g.H lv lh vs ts b + tc b (cevals vs y) a = Eng.tok μ HV g.H lv lh vs tm b := fun b => by
            have := htd b
            simp only [hop, Op.operands, List.map_cons, List.map_nil, zsum] at this
            have e : tc b (cevals vs x) (.ptr id off) = 0 := by unfold tc; split <;> simp_all
            omega
          have htm : ∀ b, Eng.tok μ HV g.H lv lh vs tm b ≤ 1 := fun b => h.one b
          have hz1 := htd' b
          have hz2 := htm b
          have hget := zsum_get (tcs b) q2 hcs
          have htb : μ.count b + tcss b HV g.H ≤ Eng.tok μ HV g.H lv lh vs ts b := by unfold Eng.tok; omega
          have hb0 : tcs b ws cs = 0 := by simp only [tcss, tcs] at *; omega
          obtain ⟨w', ws', s1, s2, s3, s4, s5⟩ := store_run (P := P) h.h.imm q3 hva hsa hnew' hsz hl hle (by omega) hb0
          have hrun : (execOp (cevals vs) o).run P w = .ok .skip w' := by
            simp [execOp, hop, hptr, s1]
          have h2 := hd.setHeap (A := fun g => g = b) (ws' := ws') (cs' := writeCells cs off new) q1 q2 hcs s2 s3 (fun g hg => hg) s4
            (fun g0 => by have := htd' g0; have := htm g0; have := s5 g0; omega)
          have h3 := h2.put o.dst (v := undef) (r := .val undef) (.of (.val _ .nil)) (fun _ _ _ _ _ _ _ h => by cases h) (fun b => by have := h2.one b; unfold Eng.tok; simp only [tc, undef]; omega)
          refine ⟨_, undef, w', μ, _, hrun, .inr ⟨rfl, rfl⟩, rfl, rfl, h3, s2.mono fun g0 hg0 => by subst hg0; omega, fun b hb => ?_, .refl μ⟩
          left
          have t1 := tok_put_le (μ := μ) (HV := HV.set id ws') (H := g.H.set id (writeCells cs off new)) (lv := lv) (lh := lh) h2.tms.1 o.dst undef (.val undef) b
          have t2 := tok_setHeap (μ := μ) (lv := lv) (lh := lh) (vs := vs) (tm := ts) h.h.l2 (ws' := ws') (cs' := writeCells cs off new) q2 hcs b
          have t3 := htd' b
          have := s5 b
          have t4 : tc b undef (.val undef) = 0 := rfl
          simp only at hb; omega
        · cases hr
      · cases hr
    · cases hr
end
end Go.Eng
end

section
/-
  THE ENGINE, part 10: what a call is to do; operations that call, defer, panic and recover.
-/
set_option linter.unusedVariables false
set_option linter.unusedSimpArgs false
namespace Go.Eng
/-- A panic's chain: its head is not recovered; nothing in it is a Goexit. -/
def ChainRel (I : Mem) (μ : List Nat) (chain : List PanicEntry) (v : AV) : Prop :=
  ∃ u older, chain = { v := u, recovered := false, goexit := false } :: older ∧ (∀ e ∈ older, e.goexit = false) ∧ Rep I μ u v
/-- The mode of the frame that called this one as a deferred call. -/
def ModeRel (I : Mem) (μ : List Nat) : RM → FrameMode → Prop
  | .none, _ => False
  | .returning, u => u = .returning
  | .panicking v r, u => ∃ x older, u = .panicking ({ v := x, recovered := r, goexit := false } :: older) ∧ (∀ e ∈ older, e.goexit = false) ∧ Rep I μ x v
def OutRel (J : Mem) (ν : List Nat) (w' : World) : Out → Ending → Prop
  | .ret v, e => ∃ v', e = .returned v' ∧ Rep J ν v' v ∧ SpareOk J w' v' v
  | .panic v, e => ∃ chain, e = .panicked chain ∧ ChainRel J ν chain v
/-- The blocks that a call's result owns. -/
def outTok (b : Nat) : Out → Ending → Nat
  | .ret v, .returned v' => tc b v' v
  | _, _ => 0
def argTok (μ : List Nat) (HV : List (List Value)) (H : Heap) (cargs : List Value) (args : List AV) (b : Nat) : Nat := μ.count b + tcss b HV H + tcs b cargs args
structure CPost (I : Mem) (μ : List Nat) (HV : List (List Value)) (w : World) (H : Heap) (cargs : List Value) (args : List AV) (out : Out) (H' : Heap) (J : Mem) (ν : List Nat) (HV' : List (List Value)) (e : Ending) (w' : World) : Prop where
  h : HInv J ν HV' w' H'
  eff : Eff I w (fun b => 0 < argTok μ HV H cargs args b) J w'
  mu : LeN μ ν
  outr : OutRel J ν w' out e
  one : ∀ b, ν.count b + tcss b HV' H' + outTok b out e ≤ 1
  tok : ∀ b, 0 < ν.count b + tcss b HV' H' + outTok b out e → 0 < argTok μ HV H cargs args b ∨ w.heap.size ≤ b
/-- What is asked of the interpreter's calls. -/
def CallSound (P : Program) (I0 : Mem) (call : FuncId → List AV → RM → Heap → Option CRes) : Prop :=
  ∀ f args rm H res, call f args rm H = some res → ∀ I μ HV w cargs, LeM I0 I → HInv I μ HV w H → RepL I μ cargs args → AllSpare I w cargs args → (∀ b, argTok μ HV H cargs args b ≤ 1) →
    (∃ fn c, P.funcs[f]? = some fn ∧ fn.body = some c ∧ (fn.name == "runtime.NumGoroutine") = false) ∧
    match rm with
    | .none => Calls P f cargs.toArray w fun e w' => ∃ J ν HV', CPost I μ HV w H cargs args res.out res.H J ν HV' e w'
    | rm => ∀ u, ModeRel I μ rm u → CallsD P f cargs.toArray u w fun e u' w' => ∃ J ν HV', CPost I μ HV w H cargs args res.out res.H J ν HV' e w' ∧ ModeRel J ν res.rm u'
theorem CallSound.mono {P : Program} {I0 I1 : Mem} {call : FuncId → List AV → RM → Heap → Option CRes} (h : CallSound P I0 call) (hle : LeM I0 I1) : CallSound P I1 call :=
  fun f args rm H res hc I μ HV w cargs hI => h f args rm H res hc I μ HV w cargs (hle.trans hI)
section
variable {P : Program} {cfg : FuncId → FCfg} {call : FuncId → List AV → RM → Heap → Option CRes} {I J : Mem} {μ ν : List Nat} {HV : List (List Value)} {lh : List (Option LCell)} {lv : List LV} {w w' : World}
  {vs : List Value} {tm : List AV} {H : Heap} {A : Nat → Prop}
theorem eval_cevals (a : Act) (x : Operand) : a.eval x = cevals a.tmps.toList x := by
  cases x with
  | tmp t => simp [Act.eval, cevals, List.getD_eq_getElem?_getD, Array.getD_eq_getD_getElem?]
  | _ => rfl
theorem eval_eq (a : Act) : a.eval = cevals a.tmps.toList := funext (eval_cevals a)
section
variable {b : Frame} {a : Act} {k : List Item} {cs : List Frame} {ops : Array Oper} {i : Nat} {rest : List Nat} {o : Oper}
theorem fin_at (ho : ops[i]? = some o) (v : Value) : (b.at a (.inRegion ops (i :: rest) :: k)).finish v = b.at (a.put o.dst v) (.inRegion ops rest :: k) := by
  rw [Frame.finish_at, ho]; rfl
theorem step_next (ho : ops[i]? = some o) (hw : Region.wanted o (yielded ops a.tmps) = true) {n : Next} {v : Value} (hr : (execOp a.eval o).run P w = .ok n w') (hn : NextVal n v) :
    step P (lone (b.at a (.inRegion ops (i :: rest) :: k)) cs w) = .next (lone (b.at (a.put o.dst v) (.inRegion ops rest :: k)) cs w') := by
  have hg := stepG_op (P := P) (b := b) (k := k) (cs := cs) (w := w) (rest := rest) ho hw
  refine step_lone_go ?_
  rw [hg, ← fin_at ho]
  rcases hn with rfl | ⟨rfl, rfl⟩ <;> simp [stepG.apply, hr]
theorem step_deferOp (ho : ops[i]? = some o) (hw : Region.wanted o (yielded ops a.tmps) = true) {d : Deferred} (hr : (execOp a.eval o).run P w = .ok (.defer d) w') :
    step P (lone (b.at a (.inRegion ops (i :: rest) :: k)) cs w) = .next (lone (b.at ({ a with defers := d :: a.defers }.put o.dst undef) (.inRegion ops rest :: k)) cs w') := by
  have hg := stepG_op (P := P) (b := b) (k := k) (cs := cs) (w := w) (rest := rest) ho hw
  refine step_lone_go ?_
  have : ({ b.at a (.inRegion ops (i :: rest) :: k) with defers := d :: a.defers } : Frame).finish undef = b.at ({ a with defers := d :: a.defers }.put o.dst undef) (.inRegion ops rest :: k) := by
    have := Frame.finish_at b { a with defers := d :: a.defers } ops i rest k undef
    rw [ho] at this; exact this
  rw [hg]; simp only [stepG.apply, Sem.runT_eq, hr, GStep.bare_after]
  exact congrArg (fun fr => GStep.go { frame := fr, callers := cs, status := .running, dying := none } w') this
theorem step_panicOp (ho : ops[i]? = some o) (hw : Region.wanted o (yielded ops a.tmps) = true) {v : Value} (hr : (execOp a.eval o).run P w = .halt (.panic v) w') :
    step P (lone (b.at a (.inRegion ops (i :: rest) :: k)) cs w) = .next (lone { b.at a (.inRegion ops (i :: rest) :: k) with mode := .panicking [{ v, recovered := false }] } cs w') := by
  have hg := stepG_op (P := P) (b := b) (k := k) (cs := cs) (w := w) (rest := rest) ho hw
  refine step_lone_go ?_
  rw [hg, ← Frame.raise_at]; simp [stepG.apply, hr]
theorem step_enter (ho : ops[i]? = some o) (hw : Region.wanted o (yielded ops a.tmps) = true) {f : FuncId} {args : Array Value} (hr : (execOp a.eval o).run P w = .ok (.enter f args) w') :
    step P (lone (b.at a (.inRegion ops (i :: rest) :: k)) cs w) = .next (lone (Frame.enter P f args .normal) (b.at a (.inRegion ops (i :: rest) :: k) :: cs) w') := by
  have hg := stepG_op (P := P) (b := b) (k := k) (cs := cs) (w := w) (rest := rest) ho hw
  exact step_lone_go (by rw [hg]; simp [stepG.apply, hr, Frame.at])
theorem step_recoverOp (ho : ops[i]? = some o) (hw : Region.wanted o (yielded ops a.tmps) = true) (hb : b.kind = .deferred) (hr : (execOp a.eval o).run P w = .ok .recover w') :
    step P (lone (b.at a (.inRegion ops (i :: rest) :: k)) cs w) = .next (match recoverD cs with
      | some (v, cs') => lone (b.at (a.put o.dst v) (.inRegion ops rest :: k)) cs' w'
      | none => lone (b.at (a.put o.dst .nilIface) (.inRegion ops rest :: k)) cs w') := by
  have hg := stepG_op (P := P) (b := b) (k := k) (cs := cs) (w := w) (rest := rest) ho hw
  have hk : (b.at a (.inRegion ops (i :: rest) :: k)).kind = .deferred := hb
  have htr := tryRecover_deferred hk cs
  split
  · rename_i v cs' hrec
    refine step_lone_go ?_
    rw [hg, ← fin_at ho]
    simp only [Frame.at] at htr ⊢
    simp [stepG.apply, hr, htr, hrec]
  · rename_i hrec
    refine step_lone_go ?_
    rw [hg, ← fin_at ho]
    simp only [Frame.at] at htr ⊢
    simp [stepG.apply, hr, htr, hrec]
/-- A call, entered and left. -/
theorem call_arrives (ho : ops[i]? = some o) (hw : Region.wanted o (yielded ops a.tmps) = true) {f : FuncId} {args : Array Value} (hr : (execOp a.eval o).run P w = .ok (.enter f args) w) {R : Ending → World → Prop}
    (hc : Calls P f args w R) (hno : ∀ w', ¬ R .outgrown w') : ∃ e w', R e w' ∧ match e with
      | .returned v => Steps P (lone (b.at a (.inRegion ops (i :: rest) :: k)) cs w) (lone (b.at (a.put o.dst v) (.inRegion ops rest :: k)) cs w')
      | .panicked chain => Arrives P (lone (b.at a (.inRegion ops (i :: rest) :: k)) cs w) b k cs (.panic chain) a w'
      | .outgrown => False := by
  obtain ⟨e, w'', fr, hR, hsteps, _, hleave⟩ := hc (b.at a (.inRegion ops (i :: rest) :: k) :: cs)
  have henter := step_enter (P := P) (b := b) (k := k) (cs := cs) (rest := rest) ho hw hr
  cases e with
  | returned v =>
    refine ⟨_, w'', hR, ?_⟩
    refine .head henter (Steps.trans hsteps (.one ?_))
    rw [← fin_at ho]; exact step_leave_returned hleave
  | panicked chain =>
    refine ⟨_, w'', hR, .inRegion ops (i :: rest) :: k, .head henter (Steps.trans hsteps (.one ?_))⟩
    rw [← Frame.raise_at]; exact step_leave_panicked hleave
  | outgrown => exact absurd hR (hno _)
end
/-- A static or a dynamic call's operation. -/
theorem call_run {o : Oper} {c : Call} {x : Operand} (hop : o.op = .call c) (hc : c.callee = .value x) {ρ : Operand → Value} {g : FuncId} {first captured : Array Value} (hx : ρ x = .func (.func g) first captured)
    {fn : Func} {body : Code} (hf : P.funcs[g]? = some fn) (hb : fn.body = some body) (hng : (fn.name == "runtime.NumGoroutine") = false) (w : World) :
    (execOp ρ o).run P w = .ok (.enter g (first ++ c.args.map ρ ++ captured)) w := by
  have hng' : ¬ fn.name = "runtime.NumGoroutine" := by simpa using hng
  simp [execOp, hop, resolve, hc, hx, Deferred.ofValue, invoke, callFunc, hf, hb, hng']
theorem RepL.argSpare {cargs : List Value} {args : List AV} (h : ∀ a ∈ args, NoOwn a) : AllSpare I w cargs args ∧ ∀ b, tcs b cargs args = 0 := by
  refine ⟨fun i v a hv ha => (h a (List.mem_of_getElem? ha)).spare w v, fun b => ?_⟩
  rcases Nat.eq_zero_or_pos (tcs b cargs args) with h0 | h0
  · exact h0
  · obtain ⟨i, v, a, hv, ha, hp⟩ := tcs_pos h0
    rw [(h a (List.mem_of_getElem? ha)).tc] at hp; omega
theorem noOwn_map_dis (l : List AV) : ∀ a ∈ l.map AV.dis, NoOwn a := by
  intro a ha; simp at ha; obtain ⟨x, _, rfl⟩ := ha; exact .dis x
/-- The frame behind a call that returned. -/
theorem call_frame (h : FInv I μ HV lv w vs tm lh H) {xs : List Operand} {ms : List Bool} (hn : (movedTmps xs ms).Nodup) {cargs : List Value} {args : List AV} {out : Out} {H' : Heap} {J : Mem} {ν : List Nat} {HV' : List (List Value)} {e : Ending} {w' : World}
    (hargs : ∀ b, tcs b cargs args ≤ tcs b (xs.map (cevals vs)) (vals tm xs ms)) (hp : CPost I μ HV w H cargs args out H' J ν HV' e w') :
    FInv J ν HV' lv w' vs (disT tm xs ms) lh H' ∧ Eff I w (fun b => 0 < tok μ HV H lv lh vs tm b) J w' ∧ LeN μ ν ∧
      (∀ b, tok ν HV' H' lv lh vs (disT tm xs ms) b + outTok b out e ≤ 1) ∧ (∀ b, 0 < tok ν HV' H' lv lh vs (disT tm xs ms) b + outTok b out e → 0 < tok μ HV H lv lh vs tm b ∨ w.heap.size ≤ b) := by
  have hd := h.dis xs ms hn
  have htd := fun b => tok_dis_le h xs ms hn b
  have htm : ∀ b, tok μ HV H lv lh vs tm b ≤ 1 := fun b => h.one b
  have hz : ∀ b, 0 < argTok μ HV H cargs args b → zsum (lc b) lv lh = 0 ∧ tcs b vs (disT tm xs ms) = 0 := fun b hb => by
    have h1 := htd b
    have h2 := htm b
    have h3 := hargs b
    unfold tok at h1 h2; unfold argTok at hb; omega
  have hone : ∀ b, tok ν HV' H' lv lh vs (disT tm xs ms) b + outTok b out e ≤ 1 := fun b => by
    have h1 := hp.one b
    by_cases h0 : ν.count b + tcss b HV' H' + outTok b out e = 0
    · have h2 := htd b; have h3 := htm b; unfold tok at *; omega
    · have h2 : zsum (lc b) lv lh = 0 ∧ tcs b vs (disT tm xs ms) = 0 := by
        rcases hp.tok b (by omega) with h3 | h3
        · exact hz b h3
        · have := tok_lt hd (b := b) (by omega); unfold tok at this; omega
      unfold tok; omega
  refine ⟨⟨hp.h, ⟨hd.tms.1, fun i v a hv ha => (hd.tms.2 i v a hv ha).mono hp.eff.le hp.mu⟩, hd.sp.eff hp.eff fun b hb => (hz b hb).2, hd.ll, loc_eff hd.lo hp.eff hp.mu fun b hb => (hz b hb).1, fun b => ?_⟩,
    hp.eff.mono fun b hb => ?_, hp.mu, hone, fun b hb => ?_⟩
  · have := hone b; unfold tok at this; omega
  · have h1 := htd b; have h3 := hargs b; unfold argTok at hb; unfold tok at *; omega
  · by_cases h0 : ν.count b + tcss b HV' H' + outTok b out e = 0
    · left; have h1 := htd b; unfold tok at *; omega
    · rcases hp.tok b (by omega) with h3 | h3
      · left; have h1 := htd b; have h4 := hargs b; unfold argTok at h3; unfold tok at *; omega
      · exact .inr h3
end
end Go.Eng
end

section
/-
  THE ENGINE, part 11: one operation in a region; a region in an order.
-/
set_option linter.unusedVariables false
set_option linter.unusedSimpArgs false
namespace Go.Eng
def DRel1 (I : Mem) (μ : List Nat) (d : Deferred) (ad : ADef) : Prop :=
  ∃ cap, d.target = .fn (.func ad.f) cap ∧ RepL I μ (d.args.toList ++ cap.toList) ad.args ∧ ∀ a ∈ ad.args, NoOwn a
def DRel (I : Mem) (μ : List Nat) : List Deferred → List ADef → Prop
  | [], [] => True
  | d :: ds, a :: as => DRel1 I μ d a ∧ DRel I μ ds as
  | _, _ => False
def RM.isNone : RM → Bool
  | .none => true
  | _ => false
def RmOk (I : Mem) (μ : List Nat) (cs0 cs : List Frame) : RM → Prop
  | .none => cs = cs0
  | rm => ∃ c rest u, cs0 = c :: rest ∧ cs = { c with mode := u } :: rest ∧ ModeRel I μ rm u
/-- What a call is measured against: the memory and the world where it began, what it may write, its callers. -/
structure Base where
  I : Mem
  μ : List Nat
  w : World
  A : Nat → Prop
  cs : List Frame
  dk : Bool
structure Good (B : Base) (s : St) (a : Act) (cs : List Frame) (w : World) (I : Mem) (μ : List Nat) (HV : List (List Value)) (lv : List LV) : Prop where
  inv : FInv I μ HV lv w a.tmps.toList s.tmps s.lh s.g.H
  df : DRel I μ a.defers s.g.defers
  rm : RmOk I μ B.cs cs s.g.rm
  dk : s.g.rm.isNone = !B.dk
  eff : Eff B.I B.w B.A I w
  tk : ∀ b, 0 < tok μ HV s.g.H lv s.lh a.tmps.toList s.tmps b → B.A b ∨ B.w.heap.size ≤ b
  mu : LeN B.μ μ
  bs : s.g.base = B.μ.length
section
variable {P : Program} {cfg : FuncId → FCfg} {call : FuncId → List AV → RM → Heap → Option CRes} {B : Base} {I J : Mem} {μ ν : List Nat}
theorem DRel1.mono (hI : LeM I J) (hμ : LeN μ ν) {d : Deferred} {a : ADef} (h : DRel1 I μ d a) : DRel1 J ν d a := by
  obtain ⟨cap, h1, h2, h3⟩ := h
  exact ⟨cap, h1, h2.mono hI hμ, h3⟩
theorem DRel.mono (hI : LeM I J) (hμ : LeN μ ν) : ∀ {ds : List Deferred} {as : List ADef}, DRel I μ ds as → DRel J ν ds as
  | [], [], h => h
  | d :: ds, a :: as, h => ⟨h.1.mono hI hμ, DRel.mono hI hμ h.2⟩
  | [], _ :: _, h => h.elim
  | _ :: _, [], h => h.elim
theorem ModeRel.mono (hI : LeM I J) (hμ : LeN μ ν) {rm : RM} {u : FrameMode} (h : ModeRel I μ rm u) : ModeRel J ν rm u := by
  cases rm with
  | none => exact h
  | returning => exact h
  | panicking v r => obtain ⟨x, o, h1, h2, h3⟩ := h; exact ⟨x, o, h1, h2, h3.mono hI hμ⟩
theorem RmOk.mono (hI : LeM I J) (hμ : LeN μ ν) {cs0 cs : List Frame} {rm : RM} (h : RmOk I μ cs0 cs rm) : RmOk J ν cs0 cs rm := by
  cases rm with
  | none => exact h
  | returning => obtain ⟨c, r, u, h1, h2, h3⟩ := h; exact ⟨c, r, u, h1, h2, h3.mono hI hμ⟩
  | panicking v r => obtain ⟨c, r, u, h1, h2, h3⟩ := h; exact ⟨c, r, u, h1, h2, h3.mono hI hμ⟩
theorem arecover_base {m g' : G} {v : AV} (h : arecover m = some (.val v g')) : g'.base = m.base := by
  unfold arecover at h
  split at h
  · cases h
  all_goals (simp only [Option.some.injEq, GR.val.injEq] at h; rw [← h.2])
theorem aglob_base {f : FuncId} {o : Oper} {vs : List AV} {m g' : G} {v : AV} (h : aglob P cfg call f o vs m = some (.val v g')) : g'.base = m.base := by
  unfold aglob at h
  split at h
  · split at h
    · simp only [Option.some.injEq, GR.val.injEq] at h; rw [← h.2]
    · cases h
  · split at h
    · simp only [Option.some.injEq, GR.val.injEq] at h; rw [← h.2]
    · cases h
  · split at h
    · split at h
      · split at h
        · simp only [Option.some.injEq, GR.val.injEq] at h; rw [← h.2]
        · cases h
      · simp only [Option.map_eq_some_iff, GR.val.injEq] at h
        obtain ⟨_, _, _, h⟩ := h
        rw [← h]
    · cases h
  · split at h
    · split at h
      · simp only [Option.some.injEq, GR.val.injEq] at h; rw [← h.2]
      · cases h
    · cases h
  · split at h
    · split at h
      · exact arecover_base h
      · cases h
    · split at h
      · unfold acallv at h
        split at h
        · cases h
        · split at h
          · simp only [Option.some.injEq, GR.val.injEq] at h; rw [← h.2]
          · simp at h
          · cases h
      · cases h
    · cases h
  · split at h
    · split at h
      · split at h
        · cases h
        · simp only [Option.some.injEq, GR.val.injEq] at h; rw [← h.2]
      · cases h
    · cases h
  · simp at h
  · cases h
/-- A step inside the frame keeps all that is asked. -/
theorem Good.step {s : St} {a : Act} {cs : List Frame} {w : World} {HV : List (List Value)} {lv : List LV} (h : Good B s a cs w I μ HV lv) {HV' : List (List Value)} {lv' : List LV} {w' : World} {a' : Act} {s' : St}
    (hs : Stp I μ HV lv w a.tmps.toList s.tmps s.lh s.g.H J ν HV' lv' w' a'.tmps.toList s'.tmps s'.lh s'.g.H) (hd : a'.defers = a.defers) (hd' : s'.g.defers = s.g.defers) (hr : s'.g.rm = s.g.rm) (hbs : s'.g.base = s.g.base := by rfl) :
    Good B s' a' cs w' J ν HV' lv' := by
  refine ⟨hs.inv, ?_, ?_, by rw [hr]; exact h.dk, h.eff.trans hs.eff h.tk, fun b hb => ?_, h.mu.trans hs.mu, by rw [hbs]; exact h.bs⟩
  · rw [hd, hd']; exact h.df.mono hs.eff.le hs.mu
  · rw [hr]; exact h.rm.mono hs.eff.le hs.mu
  · rcases hs.tok b hb with h1 | h1
    · exact h.tk b h1
    · exact .inr (Nat.le_trans h.eff.size h1)
theorem put_tmps (a : Act) (d : Option Tmp) (v : Value) : (a.put d v).tmps.toList = putV a.tmps.toList d v := by
  cases d <;> simp [Act.put, putV]
theorem put_defers (a : Act) (d : Option Tmp) (v : Value) : (a.put d v).defers = a.defers := by
  cases d <;> rfl
theorem wanted_sound {s : St} {a : Act} {cs : List Frame} {w : World} {HV : List (List Value)} {lv : List LV} (h : Good B s a cs w I μ HV lv) {ops : Array Oper} {o : Oper} {r : Bool} (hw : wantedA ops o s.tmps = some r) :
    Region.wanted o (yielded ops a.tmps) = r := by
  unfold wantedA at hw
  unfold Region.wanted
  split at hw
  · rename_i hg; rw [hg]; simp at hw; simpa using hw
  · rename_i j want hg
    rw [hg]
    simp only
    split at hw
    · rename_i hd
      simp at hw; subst hw
      simp [yielded, hd]
    · rename_i t hd
      have hlen := h.inv.tms.1
      cases ht : s.tmps[t]? with
      | none =>
        simp [ht] at hw; subst hw
        have : a.tmps[t]? = none := by
          rw [← Array.getElem?_toList]
          exact List.getElem?_eq_none (by rw [hlen]; exact List.getElem?_eq_none_iff.1 ht)
        simp [yielded, hd, this]
      | some x =>
        have htl : t < a.tmps.toList.length := by rw [hlen]; exact (List.getElem?_eq_some_iff.1 ht).1
        have hv := h.inv.tms.2 t _ x (List.getElem?_eq_getElem htl) ht
        have he : a.tmps[t]? = some (a.tmps.toList[t]'htl) := by rw [← Array.getElem?_toList]; exact List.getElem?_eq_getElem htl
        simp only [ht] at hw
        split at hw
        · rename_i e; cases e
        · rename_i b' e
          cases e
          simp only [Option.some.injEq] at hw; subst hw
          generalize a.tmps.toList[t]'htl = u at hv he
          cases hv
          simp [yielded, hd, he]
        · rename_i v hnb e
          cases e
          simp only [Option.some.injEq] at hw; subst hw
          generalize a.tmps.toList[t]'htl = u at hv he
          cases hv
          have : yielded ops a.tmps j = none := by
            simp only [yielded, hd, Option.bind_some, he]
            split
            · rename_i b' e; cases e; exact absurd rfl (hnb b')
            · rfl
          simp [this]
        · cases hw
theorem recover_rel {cs0 cs : List Frame} {rm : RM} (h : RmOk I μ cs0 cs rm) {g g' : G} {v : AV} (hg : g.rm = rm) (hr : arecover g = some (.val v g')) :
    ∃ v' cs', (match recoverD cs with | some (x, c) => (x, c) | none => (.nilIface, cs)) = (v', cs') ∧ Rep I μ v' v ∧ RmOk I μ cs0 cs' g'.rm ∧ g'.H = g.H ∧ g'.defers = g.defers ∧ g'.rm.isNone = rm.isNone ∧ NoOwn v := by
  unfold arecover at hr
  rw [hg] at hr
  cases rm with
  | none => simp at hr
  | returning =>
    simp only [Option.some.injEq, GR.val.injEq] at hr
    obtain ⟨rfl, rfl⟩ := hr
    obtain ⟨c, rest, u, h1, h2, h3⟩ := h
    have hu : u = .returning := h3
    subst hu
    refine ⟨.nilIface, cs, by rw [h2]; rfl, .val _ .nil, ?_, rfl, rfl, by rw [hg], fun _ _ h => by cases h⟩
    rw [hg]; exact ⟨c, rest, .returning, h1, h2, rfl⟩
  | panicking x r =>
    obtain ⟨c, rest, u, h1, h2, y, older, h3, h4, h5⟩ := h
    subst h3
    cases r with
    | false =>
      simp only [Option.some.injEq, GR.val.injEq] at hr
      obtain ⟨rfl, rfl⟩ := hr
      refine ⟨y, _, by rw [h2]; rfl, h5.dis, ⟨c, rest, _, h1, rfl, y, older, rfl, h4, h5⟩, rfl, rfl, rfl, .dis _⟩
    | true =>
      simp only [Option.some.injEq, GR.val.injEq] at hr
      obtain ⟨rfl, rfl⟩ := hr
      refine ⟨.nilIface, cs, by rw [h2]; rfl, .val _ .nil, ?_, rfl, rfl, by rw [hg], fun _ _ h => by cases h⟩
      rw [hg]; exact ⟨c, rest, _, h1, h2, y, older, rfl, h4, h5⟩
/-- Where an operation that goes on leads. -/
def Goes (P : Program) (B : Base) (s' : St) (m : Machine) (b : Frame) (ops : Array Oper) (rest : List Nat) (k : List Item) : Prop :=
  ∃ a' cs' w' I' μ' HV' lv', Good B s' a' cs' w' I' μ' HV' lv' ∧ Steps P m (lone (b.at a' (.inRegion ops rest :: k)) cs' w')
def Panics (P : Program) (B : Base) (v : AV) (s' : St) (m : Machine) (b : Frame) (k : List Item) : Prop :=
  ∃ a' cs' w' I' μ' HV' lv' chain, Good B s' a' cs' w' I' μ' HV' lv' ∧ ChainRel I' μ' chain v ∧ Arrives P m b k cs' (.panic chain) a' w'
def SRel (P : Program) (B : Base) (r : SR) (m : Machine) (b : Frame) (ops : Array Oper) (rest : List Nat) (k : List Item) : Prop :=
  match r with
  | .next s' => Goes P B s' m b ops rest k
  | .panic v s' => Panics P B v s' m b k
/-- What a call's operands give its callee. -/
theorem call_args {x : Value} {cargs : List Value} {lh : List (Option LCell)} {lv : List LV} {w : World} {g : FuncId} {first captured args : List AV} (hv : TRepL I μ lh lv (x :: cargs) (.func (.func g) first captured :: args))
    (hs : AllSpare I w (x :: cargs) (.func (.func g) first captured :: args)) (hlp : (first.map AV.dis ++ args ++ captured.map AV.dis).any AV.isLp = false) :
    ∃ f c : Array Value, x = .func (.func g) f c ∧ RepL I μ (f.toList ++ cargs ++ c.toList) (first.map AV.dis ++ args ++ captured.map AV.dis) ∧ AllSpare I w (f.toList ++ cargs ++ c.toList) (first.map AV.dis ++ args ++ captured.map AV.dis) ∧
      ∀ b, tcs b (f.toList ++ cargs ++ c.toList) (first.map AV.dis ++ args ++ captured.map AV.dis) = tcs b (x :: cargs) (.func (.func g) first captured :: args) := by
  have h1 := hv.uncons.1
  have h2 := hv.uncons.2
  cases h1 with
  | func fn f c af ac r1 r2 _ =>
    have hargs : RepL I μ cargs args := h2.repL (by
      rw [List.any_append, List.any_append] at hlp
      simp only [Bool.or_eq_false_iff] at hlp
      exact hlp.1.2)
    obtain ⟨s1, s2⟩ := RepL.argSpare (I := I) (w := w) (cargs := f.toList) (noOwn_map_dis first)
    obtain ⟨s3, s4⟩ := RepL.argSpare (I := I) (w := w) (cargs := c.toList) (noOwn_map_dis captured)
    have hs2 : AllSpare I w cargs args := fun i v a hv ha => hs (i + 1) v a (by simpa using hv) (by simpa using ha)
    refine ⟨f, c, rfl, (r1.dis.append hargs).append r2.dis, AllSpare.append (by have := r1.dis.length; have := hargs.length; simp at *; omega) (AllSpare.append r1.dis.length s1 hs2) s3, fun b => ?_⟩
    have e1 := zsum_append (tc b) (l := f.toList ++ cargs) (l' := c.toList) (m := first.map AV.dis ++ args) (m' := captured.map AV.dis) (by have := r1.dis.length; have := hargs.length; simp at *; omega)
    have e2 := zsum_append (tc b) (l := f.toList) (l' := cargs) (m := first.map AV.dis) (m' := args) r1.dis.length
    have e3 := s2 b
    have e4 := s4 b
    simp only [tcs] at *
    rw [e1, e2]
    simp only [zsum, tc]
    omega
theorem op_sound (hcall : CallSound P B.I call) {s : St} {a : Act} {cs : List Frame} {w : World} {HV : List (List Value)} {lv : List LV} (h : Good B s a cs w I μ HV lv) {f : FuncId} {o : Oper} {r : SR} (hr : aop P cfg call f o s = some r)
    {b : Frame} {ops : Array Oper} {i : Nat} {rest : List Nat} {k : List Item} (ho : ops[i]? = some o) (hw : Region.wanted o (yielded ops a.tmps) = true) (hb : B.dk = true → b.kind = .deferred) :
    SRel P B r (lone (b.at a (.inRegion ops (i :: rest) :: k)) cs w) b ops rest k := by
  unfold aop at hr
  simp only at hr
  split at hr
  · rename_i hn
    have hev := eval_eq a
    split at hr
    · -- pure
      split at hr
      · rename_i v hv
        simp only [Option.some.injEq] at hr; subst hr
        obtain ⟨v', w', J, e1, e2⟩ := pure_step (P := P) h.inv hn hv
        rw [← hev] at e1
        refine ⟨a.put o.dst v', cs, w', J, μ, HV, lv, h.step (a' := a.put o.dst v') ?_ (put_defers ..) rfl rfl, .one (step_next ho hw e1 (.inl rfl))⟩
        simp only [put_tmps]; exact e2
      · cases hr
    · -- own variables
      rename_i l wr hcl
      split at hr
      · rename_i c hc
        split at hr
        · rename_i v c' hv
          simp only [Option.some.injEq] at hr; subst hr
          obtain ⟨n, v', w', lv', e1, e2, e3⟩ := loc_step (P := P) h.inv hn hcl hc hv
          rw [← hev] at e1
          refine ⟨a.put o.dst v', cs, w', I, μ, HV, lv', h.step (a' := a.put o.dst v') ?_ (put_defers ..) rfl rfl, .one (step_next ho hw e1 e2)⟩
          simp only [put_tmps]; exact e3
        · cases hr
      · cases hr
    · -- what is shared
      rename_i wr hcl
      have hmem : ∀ v g', ((∃ e, o.op = .alloc e) ∨ (∃ e x, o.op = .box e x) ∨ (∃ t a, o.op = .load t a) ∨ (∃ t a x, o.op = .store t a x)) →
          aglob P cfg call f o (vals s.tmps o.op.operands.toList (moves cfg f o)) s.g = some (.val v g') →
          SRel P B (.next { s with tmps := putT (disT s.tmps o.op.operands.toList (moves cfg f o)) o.dst v, g := g' }) (lone (b.at a (.inRegion ops (i :: rest) :: k)) cs w) b ops rest k := by
        intro v g' hop hg
        obtain ⟨n, v', w', ν, HV', e1, e2, e3, e4, e5⟩ := glob_mem_step (P := P) h.inv hn rfl hop hg
        rw [← hev] at e1
        refine ⟨a.put o.dst v', cs, w', I, ν, HV', lv, h.step (a' := a.put o.dst v') (J := I) ?_ (put_defers ..) e3 e4 (aglob_base hg), .one (step_next ho hw e1 e2)⟩
        simp only [put_tmps]; exact e5
      have hv := vals_rep h.inv.tms o.op.operands.toList (moves cfg f o)
      have hsp := vals_spare h.inv.tms h.inv.sp o.op.operands.toList (moves cfg f o)
      have hd := h.inv.dis o.op.operands.toList (moves cfg f o) hn
      have htd := fun b => tok_dis_le h.inv o.op.operands.toList (moves cfg f o) hn b
      -- what is put behind an operation that leaves world and memory as they are
      have hquiet : ∀ (g' : G) (v : AV) (v' : Value) (a1 : Act) (cs1 : List Frame), g'.H = s.g.H → Rep I μ v' v → NoOwn v → a1.tmps = a.tmps → DRel I μ a1.defers g'.defers → RmOk I μ B.cs cs1 g'.rm → g'.rm.isNone = s.g.rm.isNone → g'.base = s.g.base →
          Good B { s with tmps := putT (disT s.tmps o.op.operands.toList (moves cfg f o)) o.dst v, g := g' } (a1.put o.dst v') cs1 w I μ HV lv := by
        intro g' v v' a1 cs1 hgH hrep hno hat hdf hrm hin hbs
        have h3 := hd.put o.dst (v := v') (r := v) (.of hrep) (hno.spare w v') (fun b => by rw [hno.tc]; have := hd.one b; unfold Eng.tok; omega)
        refine ⟨?_, ?_, hrm, by rw [hin]; exact h.dk, h.eff, fun b hb => ?_, h.mu, by rw [hbs]; exact h.bs⟩
        · simp only [put_tmps, hat, hgH]; exact h3
        · rw [put_defers]; exact hdf
        · simp only [put_tmps, hat, hgH] at hb
          have t1 := tok_put_le (μ := μ) (HV := HV) (H := s.g.H) (lv := lv) (lh := s.lh) hd.tms.1 o.dst v' v b
          have t3 := htd b
          rw [hno.tc] at t1
          exact h.tk b (by omega)
      split at hr
      · -- it goes on
        rename_i v g' hg
        simp only [Option.some.injEq] at hr; subst hr
        have hg0 := hg
        unfold aglob at hg
        split at hg
        · rename_i e hop; exact hmem v g' (.inl ⟨e, hop⟩) hg0
        · rename_i e x hop; exact hmem v g' (.inr (.inl ⟨e, x, hop⟩)) hg0
        · rename_i t x id off hop hvs; exact hmem v g' (.inr (.inr (.inl ⟨t, x, hop⟩))) hg0
        · rename_i t x y id off u hop hvs; exact hmem v g' (.inr (.inr (.inr ⟨t, x, y, hop⟩))) hg0
        · -- call
          rename_i c hop
          split at hg
          · -- recover
            rename_i hc
            split at hg
            · obtain ⟨v', cs', q1, q2, q3, q4, q5, q6, hno⟩ := recover_rel h.rm rfl hg
              have hrun : (execOp a.eval o).run P w = .ok .recover w := by
                simp [execOp, hop, resolve, hc, invoke, builtin]
              have hdk : B.dk = true := by
                have := h.dk
                cases hx : B.dk with
                | true => rfl
                | false =>
                  rw [hx] at this
                  cases hrm : s.g.rm <;> rw [hrm] at this <;> simp [RM.isNone] at this
                  simp [arecover, hrm] at hg
              have hst := step_recoverOp (P := P) (b := b) (k := k) (cs := cs) (rest := rest) ho hw (hb hdk) hrun
              refine ⟨a.put o.dst v', cs', w, I, μ, HV, lv, hquiet g' v v' a cs' q4 q2 hno rfl (by rw [q5]; exact h.df) q3 q6 (arecover_base hg), .one ?_⟩
              rw [hst]
              cases hrd : recoverD cs with
              | none => rw [hrd] at q1; cases q1; rfl
              | some x => obtain ⟨x1, x2⟩ := x; rw [hrd] at q1; cases q1; rfl
            · cases hg
          · -- a function
            rename_i x hc
            split at hg
            · rename_i g first captured args hvs
              unfold acallv at hg
              split at hg
              · cases hg
              · rename_i hlp
                have hops : o.op.operands.toList = x :: c.args.toList := by simp [hop, Op.operands, Call.operands, hc]
                have hv' := hv
                have hsp' := hsp
                rw [hvs, hops] at hv' hsp'
                obtain ⟨cf, cc, z1, z2, z3, z4⟩ := call_args hv' hsp' (by simpa using hlp)
                have htc : ∀ b, tcs b (cf.toList ++ c.args.toList.map (cevals a.tmps.toList) ++ cc.toList) (first.map AV.dis ++ args ++ captured.map AV.dis) ≤ tcs b (o.op.operands.toList.map (cevals a.tmps.toList)) (vals s.tmps o.op.operands.toList (moves cfg f o)) := fun b => by
                  rw [hvs, hops]; exact Nat.le_of_eq (z4 b)
                have hone : ∀ b, argTok μ HV s.g.H (cf.toList ++ c.args.toList.map (cevals a.tmps.toList) ++ cc.toList) (first.map AV.dis ++ args ++ captured.map AV.dis) b ≤ 1 := fun b => by
                  have q1 := htc b; have q2 := htd b; have q3 := h.inv.one b
                  unfold argTok; unfold Eng.tok at q2; omega
                split at hg
                · rename_i v1 rm1 H1 hcl1
                  simp only [Option.some.injEq, GR.val.injEq] at hg; obtain ⟨rfl, rfl⟩ := hg
                  obtain ⟨⟨fn, body, hf, hbd, hng⟩, hcalls⟩ := hcall g _ .none s.g.H _ hcl1 I μ HV w _ h.eff.le h.inv.h z2 z3 hone
                  simp only at hcalls
                  have hrun := call_run (P := P) (o := o) hop hc (ρ := a.eval) (by rw [hev]; exact z1) hf hbd hng w
                  have hca : cf ++ c.args.map a.eval ++ cc = (cf.toList ++ c.args.toList.map (cevals a.tmps.toList) ++ cc.toList).toArray := by
                    apply Array.ext'; simp [hev]
                  rw [hca] at hrun
                  obtain ⟨e, w', ⟨J, ν, HV', hp⟩, hst⟩ := call_arrives (P := P) (b := b) (k := k) (cs := cs) (rest := rest) ho hw hrun hcalls (by
                    rintro w' ⟨J, ν, HV', hp⟩
                    obtain ⟨v', hv', _⟩ := hp.outr
                    cases hv')
                  obtain ⟨v', rfl, hrep, hspr⟩ := hp.outr
                  obtain ⟨f1, f2, f3, f4, f5⟩ := call_frame h.inv hn htc hp
                  simp only [outTok] at f4 f5
                  have h3 := f1.put o.dst (v := v') (r := v1) (.of hrep) hspr f4
                  refine ⟨a.put o.dst v', cs, w', J, ν, HV', lv, ⟨?_, ?_, h.rm.mono f2.le f3, h.dk, h.eff.trans f2 h.tk, fun b' hb' => ?_, h.mu.trans f3, h.bs⟩, hst⟩
                  · simp only [put_tmps]; exact h3
                  · rw [put_defers]; exact h.df.mono f2.le f3
                  · simp only [put_tmps] at hb'
                    have t1 := tok_put_le (μ := ν) (HV := HV') (H := H1) (lv := lv) (lh := s.lh) f1.tms.1 o.dst v' v1 b'
                    rcases f5 b' (by omega) with h1 | h1
                    · exact h.tk b' h1
                    · exact .inr (Nat.le_trans h.eff.size h1)
                · cases hg
                · cases hg
            · cases hg
          · cases hg
        · -- defer
          rename_i c hop
          split at hg
          · rename_i x hc
            split at hg
            · rename_i g first captured args hvs
              split at hg
              · cases hg
              · rename_i hlp
                simp only [Option.some.injEq, GR.val.injEq] at hg; obtain ⟨rfl, rfl⟩ := hg
                have hops : o.op.operands.toList = x :: c.args.toList := by simp [hop, Op.operands, Call.operands, hc]
                have hv' := hv
                rw [hvs, hops] at hv'
                have h1 := hv'.uncons.1
                have hargs : RepL I μ (c.args.toList.map (cevals a.tmps.toList)) args := hv'.uncons.2.repL (by
                  have hlp' : (first ++ args ++ captured).any AV.isLp = false := by simpa using hlp
                  rw [List.any_append, List.any_append] at hlp'
                  simp only [Bool.or_eq_false_iff] at hlp'
                  exact hlp'.1.2)
                obtain ⟨cf, cc, hx, r1, r2⟩ : ∃ cf cc : Array Value, cevals a.tmps.toList x = .func (.func g) cf cc ∧ RepL I μ cf.toList first ∧ RepL I μ cc.toList captured := by
                  generalize cevals a.tmps.toList x = u at h1
                  cases h1 with
                  | func fn f c af ac r1 r2 _ => exact ⟨f, c, rfl, r1, r2⟩
                have hrun : (execOp a.eval o).run P w = .ok (.defer { target := .fn (.func g) cc, args := cf ++ c.args.map a.eval }) w := by
                  simp [execOp, hop, resolve, hc, hev, hx, Deferred.ofValue]
                refine ⟨_, cs, w, I, μ, HV, lv, hquiet _ (.val undef) undef { a with defers := _ :: a.defers } cs rfl (.val _ .nil) (fun _ _ h => by cases h) rfl ⟨⟨cc, rfl, ?_, noOwn_map_dis _⟩, h.df⟩ h.rm rfl rfl, .one (step_deferOp ho hw hrun)⟩
                have := ((r1.append hargs).append r2).dis
                simpa [hev] using this
            · cases hg
          · cases hg
        · cases hg
        · cases hg
      · -- it panics
        rename_i v g' hg
        simp only [Option.some.injEq] at hr; subst hr
        unfold aglob at hg
        split at hg
        · split at hg <;> simp at hg
        · split at hg <;> simp at hg
        · split at hg
          · split at hg
            · split at hg <;> simp at hg
            · simp at hg
          · simp at hg
        · split at hg
          · split at hg <;> simp at hg
          · simp at hg
        · rename_i c hop
          split at hg
          · split at hg
            · unfold arecover at hg; split at hg <;> simp at hg
            · cases hg
          · rename_i x hc
            split at hg
            · rename_i g first captured args hvs
              unfold acallv at hg
              split at hg
              · cases hg
              · rename_i hlp
                have hops : o.op.operands.toList = x :: c.args.toList := by simp [hop, Op.operands, Call.operands, hc]
                have hv' := hv
                have hsp' := hsp
                rw [hvs, hops] at hv' hsp'
                obtain ⟨cf, cc, z1, z2, z3, z4⟩ := call_args hv' hsp' (by simpa using hlp)
                have htc : ∀ b, tcs b (cf.toList ++ c.args.toList.map (cevals a.tmps.toList) ++ cc.toList) (first.map AV.dis ++ args ++ captured.map AV.dis) ≤ tcs b (o.op.operands.toList.map (cevals a.tmps.toList)) (vals s.tmps o.op.operands.toList (moves cfg f o)) := fun b => by
                  rw [hvs, hops]; exact Nat.le_of_eq (z4 b)
                have hone : ∀ b, argTok μ HV s.g.H (cf.toList ++ c.args.toList.map (cevals a.tmps.toList) ++ cc.toList) (first.map AV.dis ++ args ++ captured.map AV.dis) b ≤ 1 := fun b => by
                  have q1 := htc b; have q2 := htd b; have q3 := h.inv.one b
                  unfold argTok; unfold Eng.tok at q2; omega
                split at hg
                · cases hg
                · rename_i v1 rm1 H1 hcl1
                  simp only [Option.some.injEq, GR.panic.injEq] at hg; obtain ⟨rfl, rfl⟩ := hg
                  obtain ⟨⟨fn, body, hf, hbd, hng⟩, hcalls⟩ := hcall g _ .none s.g.H _ hcl1 I μ HV w _ h.eff.le h.inv.h z2 z3 hone
                  simp only at hcalls
                  have hrun := call_run (P := P) (o := o) hop hc (ρ := a.eval) (by rw [hev]; exact z1) hf hbd hng w
                  have hca : cf ++ c.args.map a.eval ++ cc = (cf.toList ++ c.args.toList.map (cevals a.tmps.toList) ++ cc.toList).toArray := by
                    apply Array.ext'; simp [hev]
                  rw [hca] at hrun
                  obtain ⟨e, w', ⟨J, ν, HV', hp⟩, hst⟩ := call_arrives (P := P) (b := b) (k := k) (cs := cs) (rest := rest) ho hw hrun hcalls (by
                    rintro w' ⟨J, ν, HV', hp⟩
                    obtain ⟨v', hv', _⟩ := hp.outr
                    cases hv')
                  obtain ⟨chain, rfl, hch⟩ := hp.outr
                  obtain ⟨f1, f2, f3, f4, f5⟩ := call_frame h.inv hn htc hp
                  simp only [outTok] at f4 f5
                  refine ⟨a, cs, w', J, ν, HV', lv, chain, ⟨f1, h.df.mono f2.le f3, h.rm.mono f2.le f3, h.dk, h.eff.trans f2 h.tk, fun b' hb' => ?_, h.mu.trans f3, h.bs⟩, hch, hst⟩
                  rcases f5 b' (by simpa using hb') with h1 | h1
                  · exact h.tk b' h1
                  · exact .inr (Nat.le_trans h.eff.size h1)
                · cases hg
            · cases hg
          · cases hg
        · split at hg
          · split at hg
            · split at hg <;> simp at hg
            · cases hg
          · cases hg
        · rename_i x t u hop hvs
          simp only [Option.some.injEq, GR.panic.injEq] at hg; obtain ⟨rfl, rfl⟩ := hg
          have hops : o.op.operands.toList = [x] := by simp [hop, Op.operands]
          have hv' := hv
          rw [hvs, hops] at hv'
          have h1 := hv'.uncons.1
          obtain ⟨y, hy, hrep⟩ : ∃ y, cevals a.tmps.toList x = .iface t y ∧ Rep I μ (.iface t y) (.iface t u) := by
            generalize cevals a.tmps.toList x = z at h1
            cases h1 with
            | iface _ _ _ h2 _ => exact ⟨_, rfl, .iface _ _ _ h2 .nil⟩
          have hrun : (execOp a.eval o).run P w = .halt (.panic (.iface t y)) w := by
            simp [execOp, hop, hev, hy, Instr.panic]
          refine ⟨a, cs, w, I, μ, HV, lv, _, ⟨hd, h.df, h.rm, h.dk, h.eff, fun b' hb' => ?_, h.mu, h.bs⟩, ⟨_, [], rfl, by simp, hrep⟩, ⟨_, .one (step_panicOp ho hw hrun)⟩⟩
          have := htd b'
          simp only at hb'
          exact h.tk b' (by omega)
        · cases hg
      · cases hr
  · cases hr
/-- A region's operations in an order. -/
theorem ops_sound (hcall : CallSound P B.I call) {f : FuncId} {ops : Array Oper} : ∀ (l : List Nat) {s : St} {x : AX} {s' : St}, aops P cfg call f ops l s = some (x, s') →
    ∀ {a : Act} {cs : List Frame} {w : World} {I : Mem} {μ : List Nat} {HV : List (List Value)} {lv : List LV}, Good B s a cs w I μ HV lv → ∀ {b : Frame} {k : List Item}, (B.dk = true → b.kind = .deferred) →
      (x = .normal ∧ Goes P B s' (lone (b.at a (.inRegion ops l :: k)) cs w) b ops [] k) ∨ ∃ v, x = .panic v ∧ Panics P B v s' (lone (b.at a (.inRegion ops l :: k)) cs w) b k := by
  intro l
  induction l with
  | nil =>
    intro s x s' hr a cs w I μ HV lv h b k hb
    simp only [aops, Option.some.injEq, Prod.mk.injEq] at hr
    obtain ⟨rfl, rfl⟩ := hr
    exact .inl ⟨rfl, a, cs, w, I, μ, HV, lv, h, Steps.refl P _⟩
  | cons i rest ih =>
    intro s x s' hr a cs w I μ HV lv h b k hb
    simp only [aops] at hr
    split at hr
    · cases hr
    · rename_i o ho
      have hnext : ∀ s1, Goes P B s1 (lone (b.at a (.inRegion ops (i :: rest) :: k)) cs w) b ops rest k → aops P cfg call f ops rest s1 = some (x, s') →
          (x = .normal ∧ Goes P B s' (lone (b.at a (.inRegion ops (i :: rest) :: k)) cs w) b ops [] k) ∨ ∃ v, x = .panic v ∧ Panics P B v s' (lone (b.at a (.inRegion ops (i :: rest) :: k)) cs w) b k := by
        rintro s1 ⟨a1, cs1, w1, I1, μ1, HV1, lv1, g1, st1⟩ hr1
        rcases ih hr1 g1 (b := b) (k := k) hb with ⟨rfl, a2, cs2, w2, I2, μ2, HV2, lv2, g2, st2⟩ | ⟨v, rfl, a2, cs2, w2, I2, μ2, HV2, lv2, ch, g2, c2, st2⟩
        · exact .inl ⟨rfl, a2, cs2, w2, I2, μ2, HV2, lv2, g2, st1.trans st2⟩
        · exact .inr ⟨v, rfl, a2, cs2, w2, I2, μ2, HV2, lv2, ch, g2, c2, .of_steps st1 st2⟩
      split at hr
      · rename_i s1 hs
        unfold astep at hs
        split at hs
        · rename_i hw
          exact hnext s1 (op_sound hcall h hs ho (wanted_sound h hw) hb) hr
        · rename_i hw
          simp only [Option.some.injEq, SR.next.injEq] at hs
          subst hs
          have hw' := wanted_sound h hw
          have h3 := h.inv.put o.dst (v := undef) (r := .val undef) (.of (.val _ .nil)) (fun _ _ _ _ _ _ _ h => by cases h) (fun b => by have := h.inv.one b; unfold Eng.tok; simp only [tc, undef]; omega)
          refine hnext { s with tmps := putT s.tmps o.dst (.val undef) } ⟨a.put o.dst undef, cs, w, I, μ, HV, lv, ⟨?_, by rw [put_defers]; exact h.df, h.rm, h.dk, h.eff, fun b' hb' => ?_, h.mu, h.bs⟩, .one ?_⟩ hr
          · simp only [put_tmps]; exact h3
          · simp only [put_tmps] at hb'
            have t1 := tok_put_le (μ := μ) (HV := HV) (H := s.g.H) (lv := lv) (lh := s.lh) h.inv.tms.1 o.dst undef (.val undef) b'
            have t4 : tc b' undef (.val undef) = 0 := rfl
            exact h.tk b' (by omega)
          · have := step_op_skip (P := P) (b := b) (a := a) (k := k) (cs := cs) (w := w) (ops := ops) (i := i) (rest := rest) (by simp [ho, hw'])
            simp only [ho, Option.bind_some] at this
            exact this
        · cases hs
      · rename_i v s1 hs
        simp only [Option.some.injEq, Prod.mk.injEq] at hr
        obtain ⟨rfl, rfl⟩ := hr
        unfold astep at hs
        split at hs
        · rename_i hw
          exact .inr ⟨v, rfl, op_sound hcall h hs ho (wanted_sound h hw) hb⟩
        · cases hs
        · cases hs
      · cases hr
end
end Go.Eng
end

section
/-
  THE ENGINE, part 12: a region whose order is drawn: what the text's order comes to, every order comes to.
-/
set_option linter.unusedVariables false
set_option linter.unusedSimpArgs false
namespace Go.Eng
/-- What lies at a place of a frame: 0 what is shared, 2 t + 1 the slot's variable, 2 t + 2 its value. -/
inductive LVal where
  | g (g : G)
  | l (c : Option (Option LCell))
  | t (v : Option AV)
def loc (s : St) (x : Nat) : LVal :=
  if x = 0 then .g s.g else if x % 2 = 1 then .l s.lh[x / 2]? else .t s.tmps[x / 2 - 1]?
theorem loc_t (s : St) (t : Nat) : loc s (2 * t + 2) = .t s.tmps[t]? := by
  unfold loc; rw [if_neg (by omega), if_neg (by omega)]; congr 2; omega
theorem loc_l (s : St) (t : Nat) : loc s (2 * t + 1) = .l s.lh[t]? := by
  unfold loc; rw [if_neg (by omega), if_pos (by omega)]; congr 2; omega
theorem loc_0 (s : St) : loc s 0 = .g s.g := rfl
theorem loc_ext {s s' : St} (h : ∀ x, loc s x = loc s' x) : s = s' := by
  obtain ⟨a, b, c⟩ := s
  obtain ⟨a', b', c'⟩ := s'
  have h0 := h 0
  simp only [loc_0, LVal.g.injEq] at h0
  have h1 : a = a' := List.ext_getElem? fun i => by have := h (2 * i + 2); simpa [loc_t] using this
  have h2 : b = b' := List.ext_getElem? fun i => by have := h (2 * i + 1); simpa [loc_l] using this
  subst h0 h1 h2; rfl
def SameLen (s s' : St) : Prop := s.tmps.length = s'.tmps.length ∧ s.lh.length = s'.lh.length
theorem tmpBits_spec : ∀ (xs : List Operand) (t : Nat), .tmp t ∈ xs → (tmpBits xs).testBit (2 * t + 2) = true
  | .tmp u :: r, t, h => by
    simp only [tmpBits, Nat.testBit_or, Nat.testBit_two_pow, Bool.or_eq_true, decide_eq_true_eq]
    simp only [List.mem_cons] at h
    rcases h with h | h
    · cases h; exact .inl rfl
    · exact .inr (tmpBits_spec r t h)
  | .const v :: r, t, h => by simp only [List.mem_cons] at h; rcases h with h | h; cases h; simpa [tmpBits] using tmpBits_spec r t h
  | .global v :: r, t, h => by simp only [List.mem_cons] at h; rcases h with h | h; cases h; simpa [tmpBits] using tmpBits_spec r t h
  | .func v :: r, t, h => by simp only [List.mem_cons] at h; rcases h with h | h; cases h; simpa [tmpBits] using tmpBits_spec r t h
  | [], t, h => by simp at h
theorem listBits_spec : ∀ (xs : List Tmp) (t : Nat), t ∈ xs → (listBits xs).testBit (2 * t + 2) = true
  | u :: r, t, h => by
    simp only [listBits, Nat.testBit_or, Nat.testBit_two_pow, Bool.or_eq_true, decide_eq_true_eq]
    simp only [List.mem_cons] at h
    rcases h with h | h
    · subst h; exact .inl rfl
    · exact .inr (listBits_spec r t h)
  | [], t, h => by simp at h
section
variable {P : Program} {cfg : FuncId → FCfg} {call : FuncId → List AV → RM → Heap → Option CRes}
theorem aeval_agree {a b : List AV} {x : Operand} (h : ∀ t, x = .tmp t → a[t]? = b[t]?) : aeval a x = aeval b x := by
  cases x with
  | tmp t => simp [aeval, List.getD_eq_getElem?_getD, h t rfl]
  | _ => rfl
theorem vals_agree {a b : List AV} : ∀ (xs : List Operand) (ms : List Bool), (∀ t, .tmp t ∈ xs → a[t]? = b[t]?) → vals a xs ms = vals b xs ms
  | [], ms, _ => by cases ms <;> rfl
  | x :: r, [], h => by simp only [vals]; rw [aeval_agree (fun t e => h t (by simp [e])), vals_agree r [] fun t ht => h t (by simp [ht])]
  | x :: r, m :: ms, h => by simp only [vals]; rw [aeval_agree (fun t e => h t (by simp [e])), vals_agree r ms fun t ht => h t (by simp [ht])]
theorem disT_get (a : List AV) : ∀ (xs : List Operand) (ms : List Bool) (i : Nat), (disT a xs ms)[i]? = if i ∈ movedTmps xs ms then (a[i]?).map AV.dis else a[i]?
  | [], ms, i => by simp [disT, movedTmps]
  | .tmp t :: r, true :: ms, i => by
    simp only [disT, movedTmps]
    rw [disT_get]
    by_cases e : t = i
    · subst e
      simp only [List.getElem?_modify, if_true, List.mem_cons, true_or]
      cases a[t]? with
      | none => simp
      | some v => simp [dis_dis]
    · have : i ≠ t := fun h => e h.symm
      simp [List.getElem?_modify, e, this]
  | .tmp t :: r, false :: ms, i => by simp only [disT, movedTmps]; exact disT_get a r ms i
  | .const _ :: r, m :: ms, i => by cases m <;> (simp only [disT, movedTmps]; exact disT_get a r ms i)
  | .global _ :: r, m :: ms, i => by cases m <;> (simp only [disT, movedTmps]; exact disT_get a r ms i)
  | .func _ :: r, m :: ms, i => by cases m <;> (simp only [disT, movedTmps]; exact disT_get a r ms i)
  | .tmp t :: r, [], i => by simp [disT, movedTmps]
  | .const _ :: r, [], i => by simp [disT, movedTmps]
  | .global _ :: r, [], i => by simp [disT, movedTmps]
  | .func _ :: r, [], i => by simp [disT, movedTmps]
theorem disT_length (a : List AV) : ∀ (xs : List Operand) (ms : List Bool), (disT a xs ms).length = a.length := by
  intro xs
  induction xs generalizing a with
  | nil => intro ms; simp [disT]
  | cons x xs ih =>
    intro ms
    cases ms with
    | nil => cases x <;> rfl
    | cons m ms => cases x <;> cases m <;> simp [disT, ih]
theorem moved_mem : ∀ (xs : List Operand) (ms : List Bool) (t : Tmp), t ∈ movedTmps xs ms → .tmp t ∈ xs
  | .tmp u :: r, true :: ms, t, h => by
    simp only [movedTmps, List.mem_cons] at h
    rcases h with rfl | h
    · simp
    · exact List.mem_cons_of_mem _ (moved_mem r ms t h)
  | .tmp u :: r, false :: ms, t, h => List.mem_cons_of_mem _ (moved_mem r ms t (by simpa [movedTmps] using h))
  | .const _ :: r, m :: ms, t, h => List.mem_cons_of_mem _ (moved_mem r ms t (by cases m <;> simpa [movedTmps] using h))
  | .global _ :: r, m :: ms, t, h => List.mem_cons_of_mem _ (moved_mem r ms t (by cases m <;> simpa [movedTmps] using h))
  | .func _ :: r, m :: ms, t, h => List.mem_cons_of_mem _ (moved_mem r ms t (by cases m <;> simpa [movedTmps] using h))
  | [], ms, t, h => by simp [movedTmps] at h
  | .tmp u :: r, [], t, h => by simp [movedTmps] at h
  | .const _ :: r, [], t, h => by simp [movedTmps] at h
  | .global _ :: r, [], t, h => by simp [movedTmps] at h
  | .func _ :: r, [], t, h => by simp [movedTmps] at h
theorem putT_get (a : List AV) (d : Option Tmp) (v : AV) (i : Nat) : (putT a d v)[i]? = if d = some i then (if i < a.length then some v else none) else a[i]? := by
  cases d with
  | none => simp [putT]
  | some t =>
    simp only [putT, List.getElem?_set, Option.some.injEq]
    by_cases e : t = i
    · subst e; simp
    · simp [e]
theorem wanted_agree {ops : Array Oper} {o : Oper} {a b : List AV} (h : ∀ t, guardTmp ops o = some t → a[t]? = b[t]?) : wantedA ops o a = wantedA ops o b := by
  unfold wantedA
  unfold guardTmp at h
  cases hg : o.guard with
  | none => rfl
  | some p =>
    obtain ⟨j, want⟩ := p
    simp only [hg] at h ⊢
    cases hd : (ops[j]?).bind (·.dst) with
    | none => rfl
    | some t => simp only [h t hd]
theorem aloc_same {f : FuncId} {o : Oper} {vs : List AV} {l : Nat} {c c' : Option LCell} {v : AV} (hcl : acls cfg f o vs = .loc l false) (hp : aloc P cfg f o vs c = some (v, c')) : c' = c := by
  cases hop : o.op <;> simp only [acls, hop] at hcl
  case alloc => split at hcl <;> (try split at hcl) <;> (try split at hcl) <;> simp at hcl
  case box => split at hcl <;> (try split at hcl) <;> (try split at hcl) <;> simp at hcl
  case load t x =>
    split at hcl
    · simp at hcl
    · simp only [Cls.loc.injEq] at hcl
      simp only [aloc, hop] at hp
      split at hp
      · split at hp
        · rename_i hgg
          rw [if_neg (by rw [hcl.2]; simp)] at hp
          simp only [Option.map_eq_some_iff, Prod.mk.injEq] at hp
          obtain ⟨_, _, _, rfl⟩ := hp
          rw [hgg]
        · cases hp
      · cases hp
    · simp at hcl
  case store => split at hcl <;> simp at hcl
  case call c0 => split at hcl <;> simp at hcl
  all_goals (simp at hcl)
theorem aglob_same {f : FuncId} {o : Oper} {vs : List AV} {m m' : G} {v : AV} (hcl : acls cfg f o vs = .glob false) (hp : aglob P cfg call f o vs m = some (.val v m')) : m' = m := by
  cases hop : o.op <;> simp only [acls, hop] at hcl
  case alloc => split at hcl <;> (try split at hcl) <;> (try split at hcl) <;> simp at hcl
  case box => split at hcl <;> (try split at hcl) <;> (try split at hcl) <;> simp at hcl
  case load t x =>
    split at hcl
    · simp only [Cls.glob.injEq] at hcl
      simp only [aglob, hop] at hp
      split at hp
      · rw [if_neg (by rw [hcl]; simp)] at hp
        simp only [Option.map_eq_some_iff, GR.val.injEq] at hp
        obtain ⟨_, _, _, rfl⟩ := hp
        rfl
      · cases hp
    · simp at hcl
    · simp at hcl
  case store => split at hcl <;> simp at hcl
  case call c0 => split at hcl <;> simp at hcl
  all_goals (simp at hcl)
/-- What an operation looks at alone decides what it does, and it writes but its own places. -/
theorem step_local {f : FuncId} {ops : Array Oper} {o : Oper} {s s' t : St} (hl : SameLen s s') (hs : astep P cfg call f ops o s = some (.next t))
    (hR : ∀ x, (footR cfg f ops o s).testBit x = true → loc s x = loc s' x) :
    footR cfg f ops o s' = footR cfg f ops o s ∧ footW cfg f ops o s' = footW cfg f ops o s ∧ SameLen s t ∧ (∀ x, (footW cfg f ops o s).testBit x = false → loc t x = loc s x) ∧
    ∃ t', astep P cfg call f ops o s' = some (.next t') ∧ SameLen s' t' ∧ (∀ x, (footW cfg f ops o s).testBit x = true → loc t' x = loc t x) ∧ (∀ x, (footW cfg f ops o s).testBit x = false → loc t' x = loc s' x) := by
  have hops : ∀ u, .tmp u ∈ o.op.operands.toList → s.tmps[u]? = s'.tmps[u]? := fun u hu => by
    have := hR (2 * u + 2) (by unfold footR; simp only [Nat.testBit_or, tmpBits_spec _ u hu, Bool.true_or])
    simpa [loc_t] using this
  have hgd : ∀ u, guardTmp ops o = some u → s.tmps[u]? = s'.tmps[u]? := fun u hu => by
    have := hR (2 * u + 2) (by unfold footR; simp [Nat.testBit_or, hu, optBit, Nat.testBit_two_pow])
    simpa [loc_t] using this
  have hw := wanted_agree hgd
  have hv : vals s'.tmps o.op.operands.toList (moves cfg f o) = vals s.tmps o.op.operands.toList (moves cfg f o) := (vals_agree _ _ hops).symm
  have eR : footR cfg f ops o s' = footR cfg f ops o s := by unfold footR; rw [← hw, hv]
  have eW : footW cfg f ops o s' = footW cfg f ops o s := by unfold footW; rw [← hw, hv]
  refine ⟨eR, eW, ?_⟩
  have hdW : ∀ u, o.dst = some u → (footW cfg f ops o s).testBit (2 * u + 2) = true := fun u hu => by
    unfold footW; simp [Nat.testBit_or, hu, optBit, Nat.testBit_two_pow]
  have hmW : ∀ u, u ∈ movedTmps o.op.operands.toList (moves cfg f o) → (footW cfg f ops o s).testBit (2 * u + 2) = true := fun u hu => by
    unfold footW; simp only [Nat.testBit_or, listBits_spec _ u hu, Bool.or_true, Bool.true_or]
  have hWi : ∀ x, (footW cfg f ops o s).testBit x = true → (∃ u, x = 2 * u + 2 ∧ (o.dst = some u ∨ u ∈ movedTmps o.op.operands.toList (moves cfg f o))) ∨
      (wantedA ops o s.tmps = some true ∧ ((∃ l, x = 2 * l + 1 ∧ acls cfg f o (vals s.tmps o.op.operands.toList (moves cfg f o)) = .loc l true) ∨ (x = 0 ∧ acls cfg f o (vals s.tmps o.op.operands.toList (moves cfg f o)) = .glob true))) := fun x hx => by
    unfold footW at hx
    simp only [Nat.testBit_or, Bool.or_eq_true] at hx
    rcases hx with (hx | hx) | hx
    · cases hd : o.dst with
      | none => simp [hd, optBit] at hx
      | some u => simp [hd, optBit, Nat.testBit_two_pow] at hx; exact .inl ⟨u, hx.symm, .inl rfl⟩
    · have key : ∀ (l : List Tmp), (listBits l).testBit x = true → ∃ u, x = 2 * u + 2 ∧ u ∈ l := by
        intro l
        induction l with
        | nil => intro h; simp [listBits] at h
        | cons u l ih =>
          intro h
          simp only [listBits, Nat.testBit_or, Nat.testBit_two_pow, Bool.or_eq_true, decide_eq_true_eq] at h
          rcases h with h | h
          · exact ⟨u, h.symm, by simp⟩
          · obtain ⟨z, h1, h2⟩ := ih h; exact ⟨z, h1, by simp [h2]⟩
      obtain ⟨u, h1, h2⟩ := key _ hx
      exact .inl ⟨u, h1, .inr h2⟩
    · right
      split at hx
      · rename_i hw
        refine ⟨hw, ?_⟩
        split at hx
        · rename_i l hc; simp [Nat.testBit_two_pow] at hx; exact .inl ⟨l, hx.symm, hc⟩
        · rename_i hc
          refine .inr ⟨?_, hc⟩
          have : (1 : Nat) = 2 ^ 0 := rfl
          rw [this, Nat.testBit_two_pow] at hx; simp at hx; exact hx.symm
        · simp at hx
      · simp at hx
  have hWl : ∀ l, wantedA ops o s.tmps = some true → acls cfg f o (vals s.tmps o.op.operands.toList (moves cfg f o)) = .loc l true → (footW cfg f ops o s).testBit (2 * l + 1) = true := fun l hw hc => by
    unfold footW; simp [Nat.testBit_or, hw, hc, Nat.testBit_two_pow]
  have hWg : wantedA ops o s.tmps = some true → acls cfg f o (vals s.tmps o.op.operands.toList (moves cfg f o)) = .glob true → (footW cfg f ops o s).testBit 0 = true := fun hw hc => by
    unfold footW; simp [Nat.testBit_or, hw, hc]
  -- the slots behind it
  have hin : ∀ v u, (o.dst = some u ∨ u ∈ movedTmps o.op.operands.toList (moves cfg f o)) →
      (putT (disT s'.tmps o.op.operands.toList (moves cfg f o)) o.dst v)[u]? = (putT (disT s.tmps o.op.operands.toList (moves cfg f o)) o.dst v)[u]? := fun v u hu => by
    rw [putT_get, putT_get, disT_length, disT_length, disT_get, disT_get, hl.1]
    by_cases hd : o.dst = some u
    · simp [hd]
    · have hm := hu.resolve_left hd
      simp only [hd, if_false, hm, if_true, hops u (moved_mem _ _ _ hm)]
  have hout : ∀ v u (a : List AV), o.dst ≠ some u → u ∉ movedTmps o.op.operands.toList (moves cfg f o) → (putT (disT a o.op.operands.toList (moves cfg f o)) o.dst v)[u]? = a[u]? := fun v u a h1 h2 => by
    rw [putT_get, disT_get, if_neg h1, if_neg h2]
  have hin0 : ∀ v u, (o.dst = some u ∨ u ∈ movedTmps o.op.operands.toList (moves cfg f o)) → (putT s'.tmps o.dst v)[u]? = (putT s.tmps o.dst v)[u]? := fun v u hu => by
    rw [putT_get, putT_get, hl.1]
    by_cases hd : o.dst = some u
    · simp [hd]
    · have hm := hu.resolve_left hd
      simp only [hd, if_false, hops u (moved_mem _ _ _ hm)]
  have hlenP : ∀ v (a : List AV), (putT a o.dst v).length = a.length := fun v a => by cases o.dst <;> simp [putT]
  have htodd : ∀ (x : Nat) (q : St), x ≠ 0 → x % 2 = 0 → loc q x = .t q.tmps[x / 2 - 1]? := fun x q h1 h2 => by unfold loc; rw [if_neg h1, if_neg (by omega)]
  have hlodd : ∀ (x : Nat) (q : St), x % 2 = 1 → loc q x = .l q.lh[x / 2]? := fun x q h2 => by unfold loc; rw [if_neg (by omega), if_pos h2]
  -- a step that turns the slots alone
  have hT : ∀ (T T' : List AV), T.length = s.tmps.length → T'.length = s'.tmps.length →
      (∀ u, (o.dst = some u ∨ u ∈ movedTmps o.op.operands.toList (moves cfg f o)) → T'[u]? = T[u]?) → (∀ u, o.dst ≠ some u → u ∉ movedTmps o.op.operands.toList (moves cfg f o) → T[u]? = s.tmps[u]? ∧ T'[u]? = s'.tmps[u]?) →
      ∀ (L L' : List (Option LCell)) (g1 g1' : G), L.length = s.lh.length → L'.length = s'.lh.length →
      (∀ l, (footW cfg f ops o s).testBit (2 * l + 1) = true → L'[l]? = L[l]?) → (∀ l, (footW cfg f ops o s).testBit (2 * l + 1) = false → L[l]? = s.lh[l]? ∧ L'[l]? = s'.lh[l]?) →
      ((footW cfg f ops o s).testBit 0 = true → g1' = g1) → ((footW cfg f ops o s).testBit 0 = false → g1 = s.g ∧ g1' = s'.g) →
      SameLen s ⟨T, L, g1⟩ ∧ (∀ x, (footW cfg f ops o s).testBit x = false → loc ⟨T, L, g1⟩ x = loc s x) ∧
      (SameLen s' ⟨T', L', g1'⟩ ∧ (∀ x, (footW cfg f ops o s).testBit x = true → loc ⟨T', L', g1'⟩ x = loc ⟨T, L, g1⟩ x) ∧ (∀ x, (footW cfg f ops o s).testBit x = false → loc ⟨T', L', g1'⟩ x = loc s' x)) := by
    intro T T' h1 h2 h3 h4 L L' g1 g1' h5 h6 h7 h8 h9 h10
    have hno : ∀ u, (footW cfg f ops o s).testBit (2 * u + 2) = false → o.dst ≠ some u ∧ u ∉ movedTmps o.op.operands.toList (moves cfg f o) := fun u hu => by
      refine ⟨fun h => ?_, fun h => ?_⟩
      · rw [hdW u h] at hu; cases hu
      · rw [hmW u h] at hu; cases hu
    refine ⟨⟨h1.symm, h5.symm⟩, fun x hx => ?_, ⟨h2.symm, h6.symm⟩, fun x hx => ?_, fun x hx => ?_⟩
    · by_cases hx0 : x = 0
      · subst hx0; simp only [loc_0]; rw [(h10 hx).1]
      · by_cases hx1 : x % 2 = 1
        · rw [hlodd x _ hx1, hlodd x _ hx1]
          have : x = 2 * (x / 2) + 1 := by omega
          rw [this] at hx
          simp only [(h8 _ hx).1]
        · rw [htodd x _ hx0 (by omega), htodd x _ hx0 (by omega)]
          have : x = 2 * (x / 2 - 1) + 2 := by omega
          rw [this] at hx
          obtain ⟨k1, k2⟩ := hno _ hx
          simp only [(h4 _ k1 k2).1]
    · by_cases hx0 : x = 0
      · subst hx0; simp only [loc_0]; rw [h9 hx]
      · by_cases hx1 : x % 2 = 1
        · rw [hlodd x _ hx1, hlodd x _ hx1]
          have : x = 2 * (x / 2) + 1 := by omega
          rw [this] at hx
          simp only [h7 _ hx]
        · rw [htodd x _ hx0 (by omega), htodd x _ hx0 (by omega)]
          rcases hWi x hx with ⟨u, e, hu⟩ | ⟨_, ⟨l, e, _⟩ | ⟨e, _⟩⟩
          · have : x / 2 - 1 = u := by omega
            simp only [this, h3 u hu]
          · omega
          · omega
    · by_cases hx0 : x = 0
      · subst hx0; simp only [loc_0]; rw [(h10 hx).2]
      · by_cases hx1 : x % 2 = 1
        · rw [hlodd x _ hx1, hlodd x _ hx1]
          have : x = 2 * (x / 2) + 1 := by omega
          rw [this] at hx
          simp only [(h8 _ hx).2]
        · rw [htodd x _ hx0 (by omega), htodd x _ hx0 (by omega)]
          have : x = 2 * (x / 2 - 1) + 2 := by omega
          rw [this] at hx
          obtain ⟨k1, k2⟩ := hno _ hx
          simp only [(h4 _ k1 k2).2]
  have hT1 : ∀ (v : AV) (L L' : List (Option LCell)) (g1 g1' : G), L.length = s.lh.length → L'.length = s'.lh.length →
      (∀ l, (footW cfg f ops o s).testBit (2 * l + 1) = true → L'[l]? = L[l]?) → (∀ l, (footW cfg f ops o s).testBit (2 * l + 1) = false → L[l]? = s.lh[l]? ∧ L'[l]? = s'.lh[l]?) →
      ((footW cfg f ops o s).testBit 0 = true → g1' = g1) → ((footW cfg f ops o s).testBit 0 = false → g1 = s.g ∧ g1' = s'.g) → _ := fun v =>
    hT (putT (disT s.tmps o.op.operands.toList (moves cfg f o)) o.dst v) (putT (disT s'.tmps o.op.operands.toList (moves cfg f o)) o.dst v) (by rw [hlenP, disT_length]) (by rw [hlenP, disT_length]) (hin v)
      (fun u h1 h2 => ⟨hout v u _ h1 h2, hout v u _ h1 h2⟩)
  unfold astep at hs ⊢
  rw [← hw]
  split at hs
  · rename_i hwt
    unfold aop at hs ⊢
    simp only at hs ⊢
    rw [hv]
    split at hs
    · rename_i hnd
      rw [if_pos hnd]
      split at hs
      · rename_i hcl
        split at hs
        · rename_i v hp
          simp only [Option.some.injEq, SR.next.injEq] at hs; subst hs
          have hnl : ∀ l, (footW cfg f ops o s).testBit (2 * l + 1) = false := fun l => by
            cases hx : (footW cfg f ops o s).testBit (2 * l + 1) with
            | false => rfl
            | true => rcases hWi _ hx with ⟨u, e, _⟩ | ⟨_, ⟨l', e, h⟩ | ⟨e, h⟩⟩ <;> first | omega | (rw [hcl] at h; cases h)
          have hng : (footW cfg f ops o s).testBit 0 = false := by
            cases hx : (footW cfg f ops o s).testBit 0 with
            | false => rfl
            | true => rcases hWi _ hx with ⟨u, e, _⟩ | ⟨_, ⟨l', e, h⟩ | ⟨e, h⟩⟩ <;> first | omega | (rw [hcl] at h; cases h)
          obtain ⟨k1, k2, k3⟩ := hT1 v s.lh s'.lh s.g s'.g rfl rfl (fun l hl => by rw [hnl l] at hl; cases hl) (fun l _ => ⟨rfl, rfl⟩) (fun h => by rw [hng] at h; cases h) (fun _ => ⟨rfl, rfl⟩)
          refine ⟨k1, k2, _, ?_, k3⟩
          rfl
        · cases hs
      · rename_i l wr hcl
        split at hs
        · rename_i c hc
          split at hs
          · rename_i v c' hp
            simp only [Option.some.injEq, SR.next.injEq] at hs; subst hs
            have hRl : (footR cfg f ops o s).testBit (2 * l + 1) = true := by unfold footR; simp [Nat.testBit_or, hwt, hcl, Nat.testBit_two_pow]
            have hc' : s'.lh[l]? = some c := by have := hR _ hRl; simp only [loc_l, LVal.l.injEq] at this; rw [← this]; exact hc
            have hng : (footW cfg f ops o s).testBit 0 = false := by
              cases hx : (footW cfg f ops o s).testBit 0 with
              | false => rfl
              | true => rcases hWi _ hx with ⟨u, e, _⟩ | ⟨_, ⟨l', e, h⟩ | ⟨e, h⟩⟩ <;> first | omega | (rw [hcl] at h; cases h)
            have hsame : wr = false → c' = c := fun hwr => by subst hwr; exact aloc_same hcl hp
            obtain ⟨k1, k2, k3⟩ := hT1 v (s.lh.set l c') (s'.lh.set l c') s.g s'.g (by simp) (by simp)
              (fun l' hl' => by
                rcases hWi _ hl' with ⟨u, e, _⟩ | ⟨_, ⟨l2, e, h⟩ | ⟨e, h⟩⟩
                · omega
                · rw [hcl] at h
                  simp only [Cls.loc.injEq] at h
                  obtain ⟨rfl, _⟩ := h
                  have : l' = l := by omega
                  subst this
                  rw [List.getElem?_set, List.getElem?_set, if_pos rfl, if_pos rfl, hl.2]
                · omega)
              (fun l' hl' => by
                by_cases e : l = l'
                · subst e
                  cases wr with
                  | true => rw [hWl l hwt hcl] at hl'; cases hl'
                  | false => rw [hsame rfl, set_self hc, set_self hc']; exact ⟨rfl, rfl⟩
                · rw [List.getElem?_set_ne e, List.getElem?_set_ne e]; exact ⟨rfl, rfl⟩)
              (fun h => by rw [hng] at h; cases h) (fun _ => ⟨rfl, rfl⟩)
            refine ⟨k1, k2, _, ?_, k3⟩
            simp only [hc', hp]
          · cases hs
        · cases hs
      · rename_i wr hcl
        have hRg : (footR cfg f ops o s).testBit 0 = true := by unfold footR; simp [Nat.testBit_or, hwt, hcl]
        have hg' : s'.g = s.g := by have := hR 0 hRg; simp only [loc_0, LVal.g.injEq] at this; exact this.symm
        split at hs
        · rename_i v g2 hp
          simp only [Option.some.injEq, SR.next.injEq] at hs; subst hs
          have hnl : ∀ l, (footW cfg f ops o s).testBit (2 * l + 1) = false := fun l => by
            cases hx : (footW cfg f ops o s).testBit (2 * l + 1) with
            | false => rfl
            | true => rcases hWi _ hx with ⟨u, e, _⟩ | ⟨_, ⟨l', e, h⟩ | ⟨e, h⟩⟩ <;> first | omega | (rw [hcl] at h; cases h)
          have hsame : wr = false → g2 = s.g := fun hwr => by subst hwr; exact aglob_same hcl hp
          obtain ⟨k1, k2, k3⟩ := hT1 v s.lh s'.lh g2 g2 rfl rfl (fun l hl => by rw [hnl l] at hl; cases hl) (fun l _ => ⟨rfl, rfl⟩) (fun _ => rfl) (fun h => by
            cases wr with
            | true => rw [hWg hwt hcl] at h; cases h
            | false => rw [hg']; exact ⟨hsame rfl, hsame rfl⟩)
          refine ⟨k1, k2, _, ?_, k3⟩
          simp only [hg', hp]
        · cases hs
        · cases hs
    · cases hs
  · rename_i hwf
    simp only [Option.some.injEq, SR.next.injEq] at hs; subst hs
    have hnl : ∀ l, (footW cfg f ops o s).testBit (2 * l + 1) = false := fun l => by
      cases hx : (footW cfg f ops o s).testBit (2 * l + 1) with
      | false => rfl
      | true => rcases hWi _ hx with ⟨u, e, _⟩ | ⟨h, _⟩ <;> first | omega | (rw [hwf] at h; cases h)
    have hng : (footW cfg f ops o s).testBit 0 = false := by
      cases hx : (footW cfg f ops o s).testBit 0 with
      | false => rfl
      | true => rcases hWi _ hx with ⟨u, e, _⟩ | ⟨h, _⟩ <;> first | omega | (rw [hwf] at h; cases h)
    obtain ⟨k1, k2, k3⟩ := hT (putT s.tmps o.dst (.val undef)) (putT s'.tmps o.dst (.val undef)) (hlenP _ _) (hlenP _ _) (hin0 _) (fun u h1 h2 => by rw [putT_get, putT_get, if_neg h1, if_neg h1]; exact ⟨rfl, rfl⟩)
      s.lh s'.lh s.g s'.g rfl rfl (fun l hl => by rw [hnl l] at hl; cases hl) (fun l _ => ⟨rfl, rfl⟩) (fun h => by rw [hng] at h; cases h) (fun _ => ⟨rfl, rfl⟩)
    exact ⟨k1, k2, _, rfl, k3⟩
  · cases hs
/-- Likewise an operation that gives up. -/
theorem step_panic {f : FuncId} {ops : Array Oper} {o : Oper} {s s' t : St} {v : AV} (hl : SameLen s s') (hs : astep P cfg call f ops o s = some (.panic v t))
    (hR : ∀ x, (footR cfg f ops o s).testBit x = true → loc s x = loc s' x) (h0 : (footR cfg f ops o s).testBit 0 = true) (h1 : (footW cfg f ops o s).testBit 0 = true) :
    SameLen s t ∧ (∀ x, (footW cfg f ops o s).testBit x = false → loc t x = loc s x) ∧ ∃ t', astep P cfg call f ops o s' = some (.panic v t') ∧ SameLen s' t' ∧ t'.g = t.g := by
  have hops : ∀ u, .tmp u ∈ o.op.operands.toList → s.tmps[u]? = s'.tmps[u]? := fun u hu => by
    have := hR (2 * u + 2) (by unfold footR; simp only [Nat.testBit_or, tmpBits_spec _ u hu, Bool.true_or])
    simpa [loc_t] using this
  have hgd : ∀ u, guardTmp ops o = some u → s.tmps[u]? = s'.tmps[u]? := fun u hu => by
    have := hR (2 * u + 2) (by unfold footR; simp [Nat.testBit_or, hu, optBit, Nat.testBit_two_pow])
    simpa [loc_t] using this
  have hw := wanted_agree hgd
  have hv : vals s'.tmps o.op.operands.toList (moves cfg f o) = vals s.tmps o.op.operands.toList (moves cfg f o) := (vals_agree _ _ hops).symm
  have hg' : s'.g = s.g := by have := hR 0 h0; simp only [loc_0, LVal.g.injEq] at this; exact this.symm
  have hmW : ∀ u, u ∈ movedTmps o.op.operands.toList (moves cfg f o) → (footW cfg f ops o s).testBit (2 * u + 2) = true := fun u hu => by
    unfold footW; simp only [Nat.testBit_or, listBits_spec _ u hu, Bool.or_true, Bool.true_or]
  unfold astep at hs ⊢
  rw [← hw]
  split at hs
  · unfold aop at hs ⊢
    simp only at hs ⊢
    rw [hv]
    split at hs
    · rename_i hnd
      rw [if_pos hnd]
      split at hs
      · split at hs <;> simp at hs
      · split at hs
        · split at hs <;> simp at hs
        · simp at hs
      · split at hs
        · simp at hs
        · rename_i v2 g2 hp
          simp only [Option.some.injEq, SR.panic.injEq] at hs
          obtain ⟨rfl, rfl⟩ := hs
          refine ⟨⟨(disT_length _ _ _).symm, rfl⟩, fun x hx => ?_, ⟨disT s'.tmps o.op.operands.toList (moves cfg f o), s'.lh, g2⟩, ?_, ⟨(disT_length _ _ _).symm, rfl⟩, rfl⟩
          · by_cases hx0 : x = 0
            · subst hx0; rw [h1] at hx; cases hx
            · by_cases hx1 : x % 2 = 1
              · unfold loc; rw [if_neg hx0, if_pos hx1, if_neg hx0, if_pos hx1]
              · unfold loc; rw [if_neg hx0, if_neg hx1, if_neg hx0, if_neg hx1]
                have : x = 2 * (x / 2 - 1) + 2 := by omega
                rw [disT_get, if_neg fun hm => by
                  have := hmW _ hm
                  rw [← ‹x = 2 * (x / 2 - 1) + 2›, hx] at this; cases this]
          · simp only [hg', hp]
        · cases hs
    · cases hs
  · simp at hs
  · cases hs
end
end Go.Eng
end
