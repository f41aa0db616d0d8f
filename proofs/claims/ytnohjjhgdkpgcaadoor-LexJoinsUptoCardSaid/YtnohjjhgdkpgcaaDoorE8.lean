/-
  THE ENGINE, part 8: steps in a frame's own variables and in the heap.
-/
import Derived.Test.YtnohjjhgdkpgcaaDoorE7
set_option linter.unusedVariables false
set_option linter.unusedSimpArgs false
namespace Go.Eng

/-- What an operation that is no call hands to its slot. -/
def NextVal (n : Next) (v : Value) : Prop := n = .value v ∨ (n = .skip ∧ v = undef)

section
variable {P : Program} {cfg : FuncId → FCfg} {I J : Mem} {μ ν : List Nat} {HV : List (List Value)} {lh : List (Option LCell)} {lv : List LV} {w w' : World} {vs : List Value} {tm : List AV} {H : Heap} {A : Nat → Prop}

theorem FInv.lv_get (h : FInv I μ HV lv w vs tm lh H) {l : Nat} {c : Option LCell} (hc : lh[l]? = some c) : ∃ d, lv[l]? = some d ∧ LocOk I μ w d c := by
  have hl : l < lv.length := by rw [h.ll]; exact (List.getElem?_eq_some_iff.1 hc).1
  exact ⟨lv[l], List.getElem?_eq_getElem hl, h.lo l _ c (List.getElem?_eq_getElem hl) hc⟩

theorem tok_lt (h : FInv I μ HV lv w vs tm lh H) {b : Nat} (hb : ¬ b < w.heap.size) : tok μ HV H lv lh vs tm b = 0 := by
  rcases Nat.eq_zero_or_pos (tok μ HV H lv lh vs tm b) with h0 | h0
  · exact h0
  · exact absurd (h.lt h0) hb

theorem tok_dis_le (h : FInv I μ HV lv w vs tm lh H) (xs : List Operand) (ms : List Bool) (hn : (movedTmps xs ms).Nodup) (b : Nat) :
    tok μ HV H lv lh vs (disT tm xs ms) b + tcs b (xs.map (cevals vs)) (vals tm xs ms) = tok μ HV H lv lh vs tm b := by
  have := moved_count h.tms.1 b xs ms hn
  unfold tok; omega

theorem set_set_self {α : Type} {l : List α} {i : Nat} {a : α} (h : l[i]? = some a) : l.set i a = l := set_self h

theorem loc_step (h : FInv I μ HV lv w vs tm lh H) {f : FuncId} {o : Oper} {ms : List Bool} (hn : (movedTmps o.op.operands.toList ms).Nodup) {l : Nat} {wr : Bool} {c c' : Option LCell} {r : AV}
    (hcl : acls cfg f o (vals tm o.op.operands.toList ms) = .loc l wr) (hc : lh[l]? = some c) (hr : aloc P cfg f o (vals tm o.op.operands.toList ms) c = some (r, c')) :
    ∃ n v' w' lv', (execOp (cevals vs) o).run P w = .ok n w' ∧ NextVal n v' ∧
      Stp I μ HV lv w vs tm lh H I μ HV lv' w' (putV vs o.dst v') (putT (disT tm o.op.operands.toList ms) o.dst r) (lh.set l c') H := by
  have hv := vals_rep h.tms o.op.operands.toList ms
  have hs := vals_spare h.tms h.sp o.op.operands.toList ms
  have hd := h.dis o.op.operands.toList ms hn
  have htd := fun b => tok_dis_le h o.op.operands.toList ms hn b
  obtain ⟨d, hld, hlo⟩ := h.lv_get hc
  generalize hts : disT tm o.op.operands.toList ms = ts at *
  generalize hav : vals tm o.op.operands.toList ms = avs at *
  have hnew : ∀ cs g, newCells P o avs = some cs → (∀ g0 cs0, c = some (g0, cs0) → g = g0 + 1) → o.dst = some l →
      ∃ n v' w' lv', (execOp (cevals vs) o).run P w = .ok n w' ∧ NextVal n v' ∧
        Stp I μ HV lv w vs tm lh H I μ HV lv' w' (putV vs o.dst v') (putT ts o.dst (.lp l g 0)) (lh.set l (some (g, cs))) H := by
    intro cs g hcs hg hdst
    obtain ⟨e, cc, w', e1, e2, e3, e4⟩ := newCells_run hcs hv rfl
    obtain ⟨k1, k2⟩ := newCells_noOwn hcs cc.toList
    obtain ⟨p1, p2, p3⟩ := e2.none h.h.imm (fun _ => False)
    have hok : LocOk I μ w' (some (w.heap.size, cc.toList)) (some (g, cs)) := ⟨⟨e, by simpa using e2.new⟩, e3, e4, k2 I w', p3⟩
    have hlt : ∀ g0, Eng.tok μ HV H lv lh vs ts g0 ≤ 1 := fun g0 => by have := hd.one g0; unfold Eng.tok; exact this
    have h2 := hd.setLoc (d' := some (w.heap.size, cc.toList)) (c' := some (g, cs)) hld hc p1 p2 (fun _ h => h.elim) hok (fun v a hva => hva.newLoc hld hc hg) (fun g0 => by
      simp only [lc, k1]
      have := hlt g0
      by_cases hh : w.heap.size = g0
      · have := tok_lt hd (b := g0) (by omega); simp [hh]; omega
      · simp [hh]; omega)
    have h3 := h2.put o.dst (v := .pointer (some ⟨w.heap.size, 0, none⟩)) (r := .lp l g 0)
      ⟨g, cs, w.heap.size, cc.toList, by rw [List.getElem?_set, if_pos rfl, if_pos (List.getElem?_eq_some_iff.1 hc).1], by rw [List.getElem?_set, if_pos rfl, if_pos (List.getElem?_eq_some_iff.1 hld).1], Nat.le_refl _, _, rfl, fun _ => rfl⟩
      (fun _ _ _ _ _ _ _ h => by cases h) (fun b => by have := h2.one b; unfold Eng.tok; simp only [tc]; omega)
    refine ⟨_, _, w', _, e1, .inl rfl, h3, p1.mono fun _ h => h.elim, fun b hb => ?_, .refl μ⟩
    have t1 := tok_put_le (μ := μ) (HV := HV) (H := H) (lv := lv.set l (some (w.heap.size, cc.toList))) (lh := lh.set l (some (g, cs))) h2.tms.1 o.dst (.pointer (some ⟨w.heap.size, 0, none⟩)) (.lp l g 0) b
    have t2 := tok_setLoc (μ := μ) (HV := HV) (H := H) (vs := vs) (tm := ts) hd.ll (d' := some (w.heap.size, cc.toList)) (c' := some (g, cs)) hld hc b
    have t3 := htd b
    simp only [lc, k1, tc] at t1 t2
    by_cases hh : w.heap.size = b
    · right; omega
    · left; simp only [hh, if_false] at t2; omega
  unfold aloc at hr
  split at hr
  · -- alloc
    rename_i e hop
    split at hr
    · rename_i t cs hdst hcs
      have hlt : t = l := by simp only [acls, hop, hdst] at hcl; split at hcl; cases hcl; split at hcl; cases hcl; rfl; cases hcl
      subst hlt
      split at hr
      · simp only [Option.some.injEq, Prod.mk.injEq] at hr; obtain ⟨rfl, rfl⟩ := hr
        exact hnew cs 0 hcs (fun g0 cs0 e => by simp at e) hdst
      · rename_i g0 cs0
        simp only [Option.some.injEq, Prod.mk.injEq] at hr; obtain ⟨rfl, rfl⟩ := hr
        exact hnew cs (g0 + 1) hcs (fun g1 cs1 e => by cases e; rfl) hdst
    · cases hr
  · -- box
    rename_i e x hop
    split at hr
    · rename_i t cs hdst hcs
      have hlt : t = l := by simp only [acls, hop, hdst] at hcl; split at hcl; cases hcl; split at hcl; cases hcl; rfl; cases hcl
      subst hlt
      split at hr
      · simp only [Option.some.injEq, Prod.mk.injEq] at hr; obtain ⟨rfl, rfl⟩ := hr
        exact hnew cs 0 hcs (fun g0 cs0 e => by simp at e) hdst
      · rename_i g0 cs0
        simp only [Option.some.injEq, Prod.mk.injEq] at hr; obtain ⟨rfl, rfl⟩ := hr
        exact hnew cs (g0 + 1) hcs (fun g1 cs1 e => by cases e; rfl) hdst
    · cases hr
  · -- load
    rename_i t x l' g off hop
    obtain rfl : l' = l := by simp only [acls, hop] at hcl; cases hcl; rfl
    split at hr
    · rename_i g' cs
      split at hr
      · rename_i hgg
        subst hgg
        simp only [hop, Op.operands] at hv hs
        obtain ⟨g1, cs1, b1, ws1, q1, q2, q3, b', q4, q5⟩ := hv.uncons.1
        rw [hc] at q1; cases q1
        rw [hld] at q2; cases q2
        obtain rfl := q5 rfl
        obtain ⟨⟨e, k1⟩, k2, k3, k4, k5⟩ := hlo
        have hcells : CellsAt w b' 0 ws1 := CellsAt.block k1
        split at hr
        · -- moved out
          rename_i hmv
          split at hr
          · rename_i u hagg hu
            simp only [Option.some.injEq, Prod.mk.injEq] at hr; obtain ⟨rfl, rfl⟩ := hr
            obtain ⟨wv, hwv, hwr⟩ := k2.get' hu
            have hrun : (execOp (cevals vs) o).run P w = .ok (.value wv) w := by
              have := hcells off wv hwv
              simp only [Nat.zero_add] at this
              simp [execOp, hop, q4, Instr.loadAt, Instr.sureAddr, loadVar, isAgg_run hagg, this]
            have hsz := zsum_set (tc 0) k2.length (a' := wv) (b' := u.dis) hwv hu
            have hsz' : ∀ g0, tcs g0 ws1 (cs.set off u.dis) + tc g0 wv u = tcs g0 ws1 cs := fun g0 => by
              have := zsum_set (tc g0) k2.length (a' := wv) (b' := u.dis) hwv hu
              rw [set_self hwv, tc_dis] at this
              simpa using this
            have hok : LocOk I μ w (some (b', ws1)) (some (g, cs.set off u.dis)) := by
              refine ⟨⟨e, k1⟩, ?_, k3, ?_, k5⟩
              · have := k2.set off hwr.dis; rwa [set_self hwv] at this
              · have := AllSpare.set k2.length k4 off (SpareOk.dis I w wv u); rwa [set_self hwv] at this
            have h2 := hd.setLoc (A := fun _ => False) (d' := some (b', ws1)) (c' := some (g, cs.set off u.dis)) hld hc (.refl _ _ _) h.h.imm (fun _ h => h.elim) hok (fun v a hva => hva.setLoc hld hc) (fun g0 => by
              have := hd.one g0; have := hsz' g0; simp only [lc]; unfold Eng.tok; omega)
            have h3 := h2.put o.dst (v := wv) (r := u) (.of hwr) (k4 off wv u hwv hu) (fun b => by
              have t2 := tok_setLoc (μ := μ) (HV := HV) (H := H) (vs := vs) (tm := ts) hd.ll (d' := some (b', ws1)) (c' := some (g, cs.set off u.dis)) hld hc b
              have := hd.one b; have := hsz' b
              simp only [lc] at t2; unfold Eng.tok at *; omega)
            refine ⟨_, wv, w, _, hrun, .inl rfl, h3, .refl _ _ _, fun b hb => ?_, .refl μ⟩
            left
            have t1 := tok_put_le (μ := μ) (HV := HV) (H := H) (lv := lv.set l' (some (b', ws1))) (lh := lh.set l' (some (g, cs.set off u.dis))) h2.tms.1 o.dst wv u b
            have t2 := tok_setLoc (μ := μ) (HV := HV) (H := H) (vs := vs) (tm := ts) hd.ll (d' := some (b', ws1)) (c' := some (g, cs.set off u.dis)) hld hc b
            have t3 := htd b
            have := hsz' b
            simp only [lc] at t2; omega
          · cases hr
        · -- read
          simp only [Option.map_eq_some_iff] at hr
          obtain ⟨u, hu, hr⟩ := hr
          simp only [Prod.mk.injEq] at hr; obtain ⟨rfl, rfl⟩ := hr
          obtain ⟨wv, r1, r2, r3⟩ := readCells_sound (P := P) hcells k3 k2 hu
          simp only [Nat.zero_add] at r1
          have hrun : (execOp (cevals vs) o).run P w = .ok (.value wv) w := by
            simp [execOp, hop, q4, Instr.loadAt, Instr.sureAddr, r1]
          have h3 := hd.put o.dst (v := wv) (r := u) (.of r2) (r3.spare w wv) (fun b => by rw [r3.tc]; have := hd.one b; unfold Eng.tok; omega)
          refine ⟨_, wv, w, lv, hrun, .inl rfl, ?_, .refl _ _ _, fun b hb => ?_, .refl μ⟩
          · rw [set_self hc]; exact h3
          · left
            rw [set_self hc] at hb
            have t1 := tok_put_le (μ := μ) (HV := HV) (H := H) (lv := lv) (lh := lh) hd.tms.1 o.dst wv u b
            have t3 := htd b
            rw [r3.tc] at t1; omega
      · cases hr
    · cases hr
  · -- store
    rename_i t x y l' g off a hop
    obtain rfl : l' = l := by simp only [acls, hop] at hcl; cases hcl; rfl
    split at hr
    · rename_i g' cs new n hnew' hsz
      split at hr
      · rename_i hb
        obtain ⟨rfl, hl, hle⟩ := hb
        simp only [Option.some.injEq, Prod.mk.injEq] at hr; obtain ⟨rfl, rfl⟩ := hr
        have hv' := hv
        simp only [hop, Op.operands] at hv hs
        obtain ⟨g1, cs1, b1, ws1, q1, q2, q3, b', q4, q5⟩ := hv.uncons.1
        rw [hc] at q1; cases q1
        rw [hld] at q2; cases q2
        obtain rfl := q5 rfl
        have hva : Rep I μ (cevals vs y) a := hv.uncons.2.uncons.1.repOf (by rintro _ _ _ rfl; simp [AV.scells, AV.cells] at hnew')
        have hsa : SpareOk I w (cevals vs y) a := hs 1 _ _ rfl rfl
        have hlcb : 1 ≤ lc b' (some (b', ws1)) (some (g, cs)) := by simp [lc]
        have hone := h.one b'
        have hget := zsum_get (lc b') hld hc
        have htd' : ∀ b, Eng.tok μ HV H lv lh vs ts b + tc b (cevals vs y) a = Eng.tok μ HV H lv lh vs tm b := fun b => by
          have := htd b
          simp only [hop, Op.operands, List.map_cons, List.map_nil, zsum] at this
          have e : tc b (cevals vs x) (.lp l' g off) = 0 := by unfold tc; split <;> simp_all
          omega
        have hlt : lc b' (some (b', ws1)) (some (g, cs)) ≤ Eng.tok μ HV H lv lh vs ts b' := by unfold Eng.tok; omega
        have htm : ∀ b, Eng.tok μ HV H lv lh vs tm b ≤ 1 := fun b => h.one b
        have hz1 := htd' b'
        have hz2 := htm b'
        have hb0 : tcs b' ws1 cs = 0 := by simp only [lc] at hlt; simp at hlt; simp only [tcs] at *; omega
        obtain ⟨w', ws', s1, s2, s3, s4, s5⟩ := store_run (P := P) h.h.imm hlo hva hsa hnew' hsz hl hle (by omega) hb0
        have hrun : (execOp (cevals vs) o).run P w = .ok .skip w' := by
          simp [execOp, hop, q4, s1]
        have h2 := hd.setLoc (A := fun g => g = b') (d' := some (b', ws')) (c' := some (g, writeCells cs off new)) hld hc s2 s3
          (fun g0 hg0 => by subst hg0; simp only [lc] at *; simp at *; omega) s4 (fun v a hva => hva.setLoc hld hc)
          (fun g0 => by have := htd' g0; have := htm g0; have := s5 g0; simp only [lc]; omega)
        have h3 := h2.put o.dst (v := undef) (r := .val undef) (.of (.val _ .nil)) (fun _ _ _ _ _ _ _ h => by cases h) (fun b => by have := h2.one b; unfold Eng.tok; simp only [tc, undef]; omega)
        refine ⟨_, undef, w', _, hrun, .inr ⟨rfl, rfl⟩, h3, s2.mono fun g0 hg0 => by subst hg0; omega, fun b hb => ?_, .refl μ⟩
        left
        have t1 := tok_put_le (μ := μ) (HV := HV) (H := H) (lv := lv.set l' (some (b', ws'))) (lh := lh.set l' (some (g, writeCells cs off new))) h2.tms.1 o.dst undef (.val undef) b
        have t2 := tok_setLoc (μ := μ) (HV := HV) (H := H) (vs := vs) (tm := ts) hd.ll (d' := some (b', ws')) (c' := some (g, writeCells cs off new)) hld hc b
        have t3 := htd' b
        have := s5 b
        have t4 : tc b undef (.val undef) = 0 := rfl
        simp only [lc] at t2; omega
      · cases hr
    · cases hr
  · cases hr
end
end Go.Eng
