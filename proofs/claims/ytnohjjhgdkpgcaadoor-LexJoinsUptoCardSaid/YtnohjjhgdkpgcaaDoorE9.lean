/-
  THE ENGINE, part 9: steps in the heap.
-/
import Derived.Test.YtnohjjhgdkpgcaaDoorE8
set_option linter.unusedVariables false
set_option linter.unusedSimpArgs false
namespace Go.Eng

section
variable {P : Program} {cfg : FuncId → FCfg} {I J : Mem} {μ ν : List Nat} {HV : List (List Value)} {lh : List (Option LCell)} {lv : List LV} {w w' : World} {vs : List Value} {tm : List AV} {H : Heap} {A : Nat → Prop}

theorem count_two {μ : List Nat} {b : Nat} : ∀ {i j : Nat}, μ[i]? = some b → μ[j]? = some b → i ≠ j → 2 ≤ μ.count b := by
  induction μ with
  | nil => intro i j h; simp at h
  | cons x μ ih =>
    intro i j hi hj hij
    cases i with
    | zero =>
      simp at hi; subst hi
      cases j with
      | zero => exact absurd rfl hij
      | succ j =>
        have : 0 < μ.count x := List.count_pos_iff.2 (List.mem_of_getElem? (by simpa using hj))
        rw [List.count_cons_self]; omega
    | succ i =>
      cases j with
      | zero =>
        simp at hj; subst hj
        have : 0 < μ.count x := List.count_pos_iff.2 (List.mem_of_getElem? (by simpa using hi))
        rw [List.count_cons_self]; omega
      | succ j =>
        have := ih (i := i) (j := j) (by simpa using hi) (by simpa using hj) (by omega)
        have := List.count_le_count_cons (a := b) (b := x) (l := μ)
        omega

theorem HInv.get (h : HInv I μ HV w H) {id : Nat} {cs : List AV} (hc : H[id]? = some cs) : ∃ b ws, μ[id]? = some b ∧ HV[id]? = some ws ∧ BlockOk I μ w b ws cs := by
  have h0 := (List.getElem?_eq_some_iff.1 hc).1
  have h1 : id < μ.length := by rw [h.l1]; exact h0
  have h2 : id < HV.length := by rw [h.l2]; exact h0
  exact ⟨_, _, List.getElem?_eq_getElem h1, List.getElem?_eq_getElem h2, h.ok id _ _ cs (List.getElem?_eq_getElem h1) (List.getElem?_eq_getElem h2) hc⟩

theorem tcss_set (hl : HV.length = H.length) {id : Nat} {ws ws' : List Value} {cs cs' : List AV} (hw : HV[id]? = some ws) (hc : H[id]? = some cs) (g : Nat) :
    tcss g (HV.set id ws') (H.set id cs') + tcs g ws cs = tcss g HV H + tcs g ws' cs' := zsum_set (tcs g) hl hw hc

/-- One block of the heap turns. -/
theorem FInv.setHeap (h : FInv I μ HV lv w vs tm lh H) {id b : Nat} {ws ws' : List Value} {cs cs' : List AV} (hm : μ[id]? = some b) (hw : HV[id]? = some ws) (hc : H[id]? = some cs)
    (he : Eff I w A I w') (hI : ImmOk I w') (hA : ∀ g, A g → g = b) (hok : BlockOk I μ w' b ws' cs')
    (hcnt : ∀ g, Eng.tok μ HV H lv lh vs tm g + tcs g ws' cs' ≤ 1 + tcs g ws cs) : FInv I μ (HV.set id ws') lv w' vs tm lh (H.set id cs') := by
  have hcb : 0 < μ.count b := List.count_pos_iff.2 (List.mem_of_getElem? hm)
  have hone := h.one b
  have hz : ∀ g, A g → g = b ∧ tcss g HV H = 0 ∧ zsum (lc g) lv lh = 0 ∧ tcs g vs tm = 0 := fun g hg => by
    have := hA g hg
    subst this
    exact ⟨rfl, by omega, by omega, by omega⟩
  refine ⟨⟨hI, by simp [h.h.l1], by simp [h.h.l2], ?_⟩, ⟨h.tms.1, fun i v a hv ha => h.tms.2 i v a hv ha⟩, h.sp.eff he fun g hg => (hz g hg).2.2.2, h.ll, loc_eff h.lo he (.refl μ) fun g hg => (hz g hg).2.2.1, fun g => ?_⟩
  · intro j b2 ws2 cs2 hj1 hj2 hj3
    by_cases e : id = j
    · subst e
      rw [hm] at hj1; cases hj1
      rw [List.getElem?_set, if_pos rfl, if_pos (List.getElem?_eq_some_iff.1 hw).1] at hj2
      rw [List.getElem?_set, if_pos rfl, if_pos (List.getElem?_eq_some_iff.1 hc).1] at hj3
      cases hj2; cases hj3; exact hok
    · rw [List.getElem?_set_ne e] at hj2 hj3
      refine (h.h.ok j b2 ws2 cs2 hj1 hj2 hj3).eff he (.refl μ) (fun hAb => ?_) (fun g hg => ?_)
      · obtain ⟨rfl, _⟩ := hz b2 hAb
        have := count_two hm hj1 e
        omega
      · have h1 := (hz g hg).2.1
        have h2 := zsum_get (tcs g) hj2 hj3
        simp only [tcss] at h1; omega
  · have h1 := hcnt g
    have h2 := tcss_set h.h.l2 (ws' := ws') (cs' := cs') hw hc g
    unfold Eng.tok at h1; omega

theorem tok_setHeap (hl : HV.length = H.length) {id : Nat} {ws ws' : List Value} {cs cs' : List AV} (hw : HV[id]? = some ws) (hc : H[id]? = some cs) (g : Nat) :
    Eng.tok μ (HV.set id ws') (H.set id cs') lv lh vs tm g + tcs g ws cs = Eng.tok μ HV H lv lh vs tm g + tcs g ws' cs' := by
  have h2 := tcss_set hl (ws' := ws') (cs' := cs') hw hc g
  unfold Eng.tok; omega

/-- A new block of the heap. -/
theorem FInv.newHeap (h : FInv I μ HV lv w vs tm lh H) {n : Nat} {ws : List Value} {cs : List AV} (he : Eff I w (fun _ => False) I w') (hI : ImmOk I w') (hn : n = w.heap.size) (hok : BlockOk I μ w' n ws cs) (hcs : ∀ g, tcs g ws cs = 0) :
    FInv I (μ ++ [n]) (HV ++ [ws]) lv w' vs tm lh (H ++ [cs]) := by
  have hmu := LeN.append μ [n]
  have h0 := tok_lt h (b := n) (by omega)
  refine ⟨⟨hI, by simp [h.h.l1], by simp [h.h.l2], ?_⟩, ⟨h.tms.1, fun i v a hv ha => (h.tms.2 i v a hv ha).mono (.refl I) hmu⟩, h.sp.eff he fun _ h => h.elim, h.ll, loc_eff h.lo he hmu fun _ h => h.elim, fun g => ?_⟩
  · intro j b2 ws2 cs2 hj1 hj2 hj3
    by_cases e : j < H.length
    · rw [List.getElem?_append_left (by rw [h.h.l1]; exact e)] at hj1
      rw [List.getElem?_append_left (by rw [h.h.l2]; exact e)] at hj2
      rw [List.getElem?_append_left e] at hj3
      exact (h.h.ok j b2 ws2 cs2 hj1 hj2 hj3).eff he hmu (fun h => h) (fun _ h => h.elim)
    · rw [List.getElem?_append_right (by rw [h.h.l1]; omega)] at hj1
      rw [List.getElem?_append_right (by rw [h.h.l2]; omega)] at hj2
      rw [List.getElem?_append_right (by omega)] at hj3
      have hj : j - H.length = 0 := by
        have := (List.getElem?_eq_some_iff.1 hj3).1
        simp at this; omega
      rw [h.h.l1, hj] at hj1
      rw [h.h.l2, hj] at hj2
      rw [hj] at hj3
      simp at hj1 hj2 hj3
      subst hj1 hj2 hj3
      obtain ⟨k1, k2, k3, k4, k5⟩ := hok
      exact ⟨k1, k2.mono (.refl I) hmu, k3, k4, k5⟩
  · have h1 := zsum_append (tcs g) (l := HV) (l' := [ws]) (m := H) (m' := [cs]) h.h.l2
    have h2 := h.one g
    simp only [zsum, hcs] at h1
    rw [List.count_append]
    simp only [tcss] at *
    by_cases e : n = g
    · subst e
      unfold Eng.tok at h0
      simp only [tcss] at h0
      simp; omega
    · simp [e]; omega

theorem glob_mem_step (h : FInv I μ HV lv w vs tm lh H) {f : FuncId} {o : Oper} {ms : List Bool} {call : FuncId → List AV → RM → Heap → Option CRes} (hn : (movedTmps o.op.operands.toList ms).Nodup) {g g' : G} {r : AV} (hg : g.H = H)
    (hop : (∃ e, o.op = .alloc e) ∨ (∃ e x, o.op = .box e x) ∨ (∃ t a, o.op = .load t a) ∨ (∃ t a x, o.op = .store t a x))
    (hr : aglob P cfg call f o (vals tm o.op.operands.toList ms) g = some (.val r g')) :
    ∃ n v' w' ν HV', (execOp (cevals vs) o).run P w = .ok n w' ∧ NextVal n v' ∧ g'.defers = g.defers ∧ g'.rm = g.rm ∧
      Stp I μ HV lv w vs tm lh H I ν HV' lv w' (putV vs o.dst v') (putT (disT tm o.op.operands.toList ms) o.dst r) lh g'.H := by
  subst hg
  have hv := vals_rep h.tms o.op.operands.toList ms
  have hs := vals_spare h.tms h.sp o.op.operands.toList ms
  have hd := h.dis o.op.operands.toList ms hn
  have htd := fun b => tok_dis_le h o.op.operands.toList ms hn b
  generalize hts : disT tm o.op.operands.toList ms = ts at *
  generalize hav : vals tm o.op.operands.toList ms = avs at *
  have hnew : ∀ cs, newCells P o avs = some cs → r = .ptr g.H.length 0 → g' = { g with H := g.H ++ [cs] } →
      ∃ n v' w' ν HV', (execOp (cevals vs) o).run P w = .ok n w' ∧ NextVal n v' ∧ g'.defers = g.defers ∧ g'.rm = g.rm ∧
      Stp I μ HV lv w vs tm lh g.H I ν HV' lv w' (putV vs o.dst v') (putT ts o.dst r) lh g'.H := by
    intro cs hcs hr' hg'
    subst hr' hg'
    obtain ⟨e, cc, w', e1, e2, e3, e4⟩ := newCells_run hcs hv rfl
    obtain ⟨k1, k2⟩ := newCells_noOwn hcs cc.toList
    obtain ⟨p1, p2, p3⟩ := e2.none h.h.imm (fun _ => False)
    have h2 := hd.newHeap p1 p2 rfl (ws := cc.toList) (cs := cs) ⟨⟨e, by simpa using e2.new⟩, e3, e4, k2 I w', p3⟩ k1
    have h3 := h2.put o.dst (v := .pointer (some ⟨w.heap.size, 0, none⟩)) (r := .ptr g.H.length 0) (.of (.ptr _ _ _ (by rw [← h.h.l1]; simp) .nil)) (fun _ _ _ _ _ _ _ h => by cases h) (fun b => by have := h2.one b; unfold Eng.tok; simp only [tc]; omega)
    refine ⟨_, _, w', _, _, e1, .inl rfl, rfl, rfl, h3, p1.mono fun _ h => h.elim, fun b hb => ?_, LeN.append _ _⟩
    have t1 := tok_put_le (μ := μ ++ [w.heap.size]) (HV := HV ++ [cc.toList]) (H := g.H ++ [cs]) (lv := lv) (lh := lh) h2.tms.1 o.dst (.pointer (some ⟨w.heap.size, 0, none⟩)) (.ptr g.H.length 0) b
    have t3 := htd b
    have t4 := zsum_append (tcs b) (l := HV) (l' := [cc.toList]) (m := g.H) (m' := [cs]) h.h.l2
    simp only [zsum, k1] at t4
    by_cases hh : w.heap.size = b
    · right; omega
    · left
      have : Eng.tok (μ ++ [w.heap.size]) (HV ++ [cc.toList]) (g.H ++ [cs]) lv lh vs ts b = Eng.tok μ HV g.H lv lh vs ts b := by
        unfold Eng.tok; rw [List.count_append]; simp only [tcss]; rw [t4]; simp [hh]
      simp only [tc] at t1 hb; omega
  rcases hop with ⟨e, hop⟩ | ⟨e, x, hop⟩ | ⟨t, x, hop⟩ | ⟨t, x, y, hop⟩
  · simp only [aglob, hop] at hr
    split at hr
    · rename_i cs hcs
      simp only [Option.some.injEq, GR.val.injEq] at hr
      exact hnew cs hcs hr.1.symm hr.2.symm
    · cases hr
  · simp only [aglob, hop] at hr
    split at hr
    · rename_i cs hcs
      simp only [Option.some.injEq, GR.val.injEq] at hr
      exact hnew cs hcs hr.1.symm hr.2.symm
    · cases hr
  · unfold aglob at hr
    simp only [hop] at hr
    split at hr
    all_goals (try (rename_i e; cases e; done))
    · rename_i t' x' id off e
      cases e
      split at hr
      · rename_i cs hcs
        simp only [hop, Op.operands] at hv hs
        obtain ⟨b, ws, q1, q2, q3⟩ := hd.h.get hcs
        have hptr : cevals vs x = .pointer (some ⟨b, off, none⟩) := by
          have := hv.uncons.1
          generalize cevals vs x = u at this
          cases this with
          | ptr _ _ b2 hb2 _ => rw [q1] at hb2; cases hb2; rfl
        obtain ⟨⟨e, k1⟩, k2, k3, k4, k5⟩ := q3
        have hcells : CellsAt w b 0 ws := CellsAt.block k1
        split at hr
        · split at hr
          · rename_i u hagg hu
            simp only [Option.some.injEq, GR.val.injEq] at hr; obtain ⟨rfl, rfl⟩ := hr
            obtain ⟨wv, hwv, hwr⟩ := k2.get' hu
            have hrun : (execOp (cevals vs) o).run P w = .ok (.value wv) w := by
              have := hcells off wv hwv
              simp only [Nat.zero_add] at this
              simp [execOp, hop, hptr, Instr.loadAt, Instr.sureAddr, loadVar, isAgg_run hagg, this]
            have hsz' : ∀ g0, tcs g0 ws (cs.set off u.dis) + tc g0 wv u = tcs g0 ws cs := fun g0 => by
              have := zsum_set (tc g0) k2.length (a' := wv) (b' := u.dis) hwv hu
              rw [set_self hwv, tc_dis] at this
              simpa using this
            have hok : BlockOk I μ w b ws (cs.set off u.dis) := by
              refine ⟨⟨e, k1⟩, ?_, k3, ?_, k5⟩
              · have := k2.set off hwr.dis; rwa [set_self hwv] at this
              · have := AllSpare.set k2.length k4 off (SpareOk.dis I w wv u); rwa [set_self hwv] at this
            have h2 := hd.setHeap (A := fun _ => False) (ws' := ws) (cs' := cs.set off u.dis) q1 q2 hcs (.refl _ _ _) h.h.imm (fun _ h => h.elim) hok (fun g0 => by
              have := hd.one g0; have := hsz' g0; unfold Eng.tok; omega)
            have t2' := fun b => tok_setHeap (μ := μ) (lv := lv) (lh := lh) (vs := vs) (tm := ts) h.h.l2 (ws' := ws) (cs' := cs.set off u.dis) q2 hcs b
            have h3 := h2.put o.dst (v := wv) (r := u) (.of hwr) (k4 off wv u hwv hu) (fun b => by
              have t2 := t2' b
              have := hd.one b; have := hsz' b
              unfold Eng.tok at *; omega)
            refine ⟨_, wv, w, μ, _, hrun, .inl rfl, rfl, rfl, h3, .refl _ _ _, fun b hb => ?_, .refl μ⟩
            left
            have t1 := tok_put_le (μ := μ) (HV := HV.set id ws) (H := g.H.set id (cs.set off u.dis)) (lv := lv) (lh := lh) h2.tms.1 o.dst wv u b
            have t2 := t2' b
            have t3 := htd b
            have := hsz' b
            simp only at hb; omega
          · cases hr
        · simp only [Option.map_eq_some_iff] at hr
          obtain ⟨u, hu, hr⟩ := hr
          simp only [GR.val.injEq] at hr; obtain ⟨rfl, rfl⟩ := hr
          obtain ⟨wv, r1, r2, r3⟩ := readCells_sound (P := P) hcells k3 k2 hu
          simp only [Nat.zero_add] at r1
          have hrun : (execOp (cevals vs) o).run P w = .ok (.value wv) w := by
            simp [execOp, hop, hptr, Instr.loadAt, Instr.sureAddr, r1]
          have h3 := hd.put o.dst (v := wv) (r := u) (.of r2) (r3.spare w wv) (fun b => by rw [r3.tc]; have := hd.one b; unfold Eng.tok; omega)
          refine ⟨_, wv, w, μ, HV, hrun, .inl rfl, rfl, rfl, h3, .refl _ _ _, fun b hb => ?_, .refl μ⟩
          left
          have t1 := tok_put_le (μ := μ) (HV := HV) (H := g.H) (lv := lv) (lh := lh) hd.tms.1 o.dst wv u b
          have t3 := htd b
          rw [r3.tc] at t1; omega
      · cases hr
    · cases hr
  · unfold aglob at hr
    simp only [hop] at hr
    split at hr
    all_goals (try (rename_i e; cases e; done))
    · rename_i t' x' y' id off a e
      cases e
      split at hr
      · rename_i cs new n hcs hnew' hsz
        split at hr
        · rename_i hb
          obtain ⟨hl, hle⟩ := hb
          simp only [Option.some.injEq, GR.val.injEq] at hr; obtain ⟨rfl, rfl⟩ := hr
          have hv' := hv
          simp only [hop, Op.operands] at hv hs
          obtain ⟨b, ws, q1, q2, q3⟩ := hd.h.get hcs
          have hptr : cevals vs x = .pointer (some ⟨b, off, none⟩) := by
            have := hv.uncons.1
            generalize cevals vs x = u at this
            cases this with
            | ptr _ _ b2 hb2 _ => rw [q1] at hb2; cases hb2; rfl
          have hva : Rep I μ (cevals vs y) a := hv.uncons.2.uncons.1.repOf (by rintro _ _ _ rfl; simp [AV.scells, AV.cells] at hnew')
          have hsa : SpareOk I w (cevals vs y) a := hs 1 _ _ rfl rfl
          have hcb : 0 < μ.count b := List.count_pos_iff.2 (List.mem_of_getElem? q1)
          have htd' : ∀ b, Eng.tok μ HV g.H lv lh vs ts b + tc b (cevals vs y) a = Eng.tok μ HV g.H lv lh vs tm b := fun b => by
            have := htd b
            simp only [hop, Op.operands, List.map_cons, List.map_nil, zsum] at this
            have e : tc b (cevals vs x) (.ptr id off) = 0 := by unfold tc; split <;> simp_all
            omega
          have htm : ∀ b, Eng.tok μ HV g.H lv lh vs tm b ≤ 1 := fun b => h.one b
          have hz1 := htd' b
          have hz2 := htm b
          have hget := zsum_get (tcs b) q2 hcs
          have htb : μ.count b + tcss b HV g.H ≤ Eng.tok μ HV g.H lv lh vs ts b := by unfold Eng.tok; omega
          have hb0 : tcs b ws cs = 0 := by simp only [tcss, tcs] at *; omega
          obtain ⟨w', ws', s1, s2, s3, s4, s5⟩ := store_run (P := P) h.h.imm q3 hva hsa hnew' hsz hl hle (by omega) hb0
          have hrun : (execOp (cevals vs) o).run P w = .ok .skip w' := by
            simp [execOp, hop, hptr, s1]
          have h2 := hd.setHeap (A := fun g => g = b) (ws' := ws') (cs' := writeCells cs off new) q1 q2 hcs s2 s3 (fun g hg => hg) s4
            (fun g0 => by have := htd' g0; have := htm g0; have := s5 g0; omega)
          have h3 := h2.put o.dst (v := undef) (r := .val undef) (.of (.val _ .nil)) (fun _ _ _ _ _ _ _ h => by cases h) (fun b => by have := h2.one b; unfold Eng.tok; simp only [tc, undef]; omega)
          refine ⟨_, undef, w', μ, _, hrun, .inr ⟨rfl, rfl⟩, rfl, rfl, h3, s2.mono fun g0 hg0 => by subst hg0; omega, fun b hb => ?_, .refl μ⟩
          left
          have t1 := tok_put_le (μ := μ) (HV := HV.set id ws') (H := g.H.set id (writeCells cs off new)) (lv := lv) (lh := lh) h2.tms.1 o.dst undef (.val undef) b
          have t2 := tok_setHeap (μ := μ) (lv := lv) (lh := lh) (vs := vs) (tm := ts) h.h.l2 (ws' := ws') (cs' := writeCells cs off new) q2 hcs b
          have t3 := htd' b
          have := s5 b
          have t4 : tc b undef (.val undef) = 0 := rfl
          simp only at hb; omega
        · cases hr
      · cases hr
    · cases hr
end
end Go.Eng
