/- Texts of this proof folded into one: E13 E14 E15 E15b E16. -/
import Derived.Test.YtmdjdcnabbapgaaGreatDoorJ3
import Derived.Scope
section
/-
  THE ENGINE, part 13: any order of a region comes to what the text's order comes to.
-/
set_option linter.unusedVariables false
set_option linter.unusedSimpArgs false
namespace Go.Eng
section
variable {P : Program} {cfg : FuncId → FCfg} {call : FuncId → List AV → RM → Heap → Option CRes}
/-- What a run in the text's order went through. -/
structure Trace (P : Program) (cfg : FuncId → FCfg) (call : FuncId → List AV → RM → Heap → Option CRes) (f : FuncId) (ops : Array Oper) (i n : Nat) (l : List Oper) (ancs : List Nat) (foot : List (Nat × Nat)) (σ : Nat → St) : Prop where
  step : ∀ m, i ≤ m → m < n → ∃ o R W anc, l[m - i]? = some o ∧ astep P cfg call f ops o (σ m) = some (.next (σ (m + 1))) ∧ foot[m]? = some (R, W) ∧ R = footR cfg f ops o (σ m) ∧ W = footW cfg f ops o (σ m) ∧
    ancs[m]? = some anc ∧ anc = ancBits (ancs.take m) o.after.toList ∧ edgesDown m o.after.toList = true ∧ apartFrom anc R W 0 (foot.take m) = true
theorem adraw_trace {f : FuncId} {ops : Array Oper} : ∀ (l : List Oper) (i : Nat) (ancs : List Nat) (foot : List (Nat × Nat)) (s s' : St), adraw P cfg call f ops l i ancs foot s = some s' → ancs.length = i → foot.length = i →
    ∃ ancsF footF σ, ancsF.take i = ancs ∧ footF.take i = foot ∧ ancsF.length = i + l.length ∧ footF.length = i + l.length ∧ σ i = s ∧ σ (i + l.length) = s' ∧ Trace P cfg call f ops i (i + l.length) l ancsF footF σ := by
  intro l
  induction l with
  | nil =>
    intro i ancs foot s s' h h1 h2
    simp only [adraw, Option.some.injEq] at h
    subst h
    exact ⟨ancs, foot, fun _ => s, by simp [← h1], by simp [← h2], by simp [h1], by simp [h2], rfl, rfl, ⟨fun m hm hm2 => by simp at hm2; omega⟩⟩
  | cons o r ih =>
    intro i ancs foot s s' h h1 h2
    simp only [adraw] at h
    split at h
    · rename_i hc
      split at h
      · rename_i s1 hs
        obtain ⟨A, F, σ, a1, a2, a3, a4, a5, a6, a7⟩ := ih (i + 1) _ _ s1 s' h (by simp [h1]) (by simp [h2])
        have eA : A.take i = ancs := by
          have := congrArg (List.take i) a1
          rw [List.take_take, Nat.min_eq_left (by omega), List.take_append_of_le_length (by omega), List.take_of_length_le (l := ancs) (by omega)] at this
          exact this
        have eF : F.take i = foot := by
          have := congrArg (List.take i) a2
          rw [List.take_take, Nat.min_eq_left (by omega), List.take_append_of_le_length (by omega), List.take_of_length_le (l := foot) (by omega)] at this
          exact this
        have gA : A[i]? = some (ancBits ancs o.after.toList) := by
          have := congrArg (fun l => l[i]?) a1
          simp only [List.getElem?_take, if_pos (Nat.lt_succ_self i)] at this
          rw [this, List.getElem?_append_right (by omega)]; simp [h1]
        have gF : F[i]? = some (footR cfg f ops o s, footW cfg f ops o s) := by
          have := congrArg (fun l => l[i]?) a2
          simp only [List.getElem?_take, if_pos (Nat.lt_succ_self i)] at this
          rw [this, List.getElem?_append_right (by omega)]; simp [h2]
        refine ⟨A, F, fun j => if j = i then s else σ j, eA, eF, by simp [a3]; omega, by simp [a4]; omega, by simp, ?_, ⟨fun m hm hm2 => ?_⟩⟩
        · show (if i + (o :: r).length = i then s else σ (i + (o :: r).length)) = s'
          rw [if_neg (by simp)]
          rw [show i + (o :: r).length = i + 1 + r.length by simp; omega]; exact a6
        · by_cases e : m = i
          · subst e
            refine ⟨o, _, _, _, by simp, ?_, gF, by simp, by simp, gA, by rw [eA], hc.1, ?_⟩
            · simp [a5]; exact hs
            · rw [eF]; exact hc.2
          · obtain ⟨o', R, W, anc, b1, b2, b3, b4, b5, b6, b7, b8, b9⟩ := a7.step m (by omega) (by simp at hm2; omega)
            refine ⟨o', R, W, anc, ?_, ?_, b3, ?_, ?_, b6, b7, b8, b9⟩
            · have : m - i = (m - (i + 1)) + 1 := by omega
              rw [this]; simpa using b1
            · rw [if_neg e, if_neg (by omega)]; exact b2
            · rw [if_neg e]; exact b4
            · rw [if_neg e]; exact b5
      · cases h
    · cases h
theorem apartFrom_spec {anc R W : Nat} : ∀ {l : List (Nat × Nat)} {j k : Nat} {r w : Nat}, apartFrom anc R W j l = true → l[k]? = some (r, w) →
    anc.testBit (j + k) = true ∨ ∀ x, ¬ (w.testBit x = true ∧ (R.testBit x = true ∨ W.testBit x = true)) ∧ ¬ (r.testBit x = true ∧ W.testBit x = true) := by
  intro l
  induction l with
  | nil => intro j k r w _ h; simp at h
  | cons p l ih =>
    intro j k r w h hk
    obtain ⟨r0, w0⟩ := p
    simp only [apartFrom, Bool.and_eq_true, Bool.or_eq_true, beq_iff_eq] at h
    cases k with
    | zero =>
      simp only [List.getElem?_cons_zero, Option.some.injEq, Prod.mk.injEq] at hk
      obtain ⟨rfl, rfl⟩ := hk
      rcases h.1 with h1 | h1
      · exact .inl h1
      · right
        intro x
        have := congrArg (fun n => Nat.testBit n x) h1
        simp only [Nat.testBit_or, Nat.testBit_and, Nat.zero_testBit, Bool.or_eq_false_iff, Bool.and_eq_false_imp] at this
        refine ⟨fun ⟨q1, q2⟩ => ?_, fun ⟨q1, q2⟩ => ?_⟩
        · have := this.1 q1
          rcases q2 with q2 | q2 <;> simp_all
        · have := this.2 q1; simp_all
    | succ k =>
      rcases ih h.2 (by simpa using hk) with h1 | h1
      · left; rwa [show j + (k + 1) = j + 1 + k by omega]
      · exact .inr h1
theorem ancBits_spec {ancs : List Nat} {j : Nat} : ∀ {es : List Edge}, (ancBits ancs es).testBit j = true → ∃ e ∈ es, Region.binds .any e = true ∧ (e.on = j ∨ (ancs.getD e.on 0).testBit j = true) := by
  intro es
  induction es with
  | nil => intro h; simp [ancBits] at h
  | cons e es ih =>
    intro h
    simp only [ancBits, Nat.testBit_or, Bool.or_eq_true] at h
    rcases h with h | h
    · split at h
      · rename_i hb
        simp only [Nat.testBit_or, Nat.testBit_two_pow, Bool.or_eq_true, decide_eq_true_eq] at h
        exact ⟨e, by simp, hb, h⟩
      · simp at h
    · obtain ⟨e', h1, h2⟩ := ih h
      exact ⟨e', by simp [h1], h2⟩
theorem edgesDown_spec {i : Nat} : ∀ {es : List Edge}, edgesDown i es = true → ∀ e ∈ es, Region.binds .any e = true → e.on < i := by
  intro es
  induction es with
  | nil => intro _ e he; simp at he
  | cons e es ih =>
    intro h e' he hb
    simp only [edgesDown, Bool.and_eq_true, Bool.or_eq_true, Bool.not_eq_true', decide_eq_true_eq] at h
    simp only [List.mem_cons] at he
    rcases he with rfl | he
    · rcases h.1 with h1 | h1
      · rw [hb] at h1; cases h1
      · exact h1
    · exact ih h.2 e' he hb
/-- A state after some of the operations: each place as the last of them that writes it left it. -/
structure Part (n : Nat) (σ : Nat → St) (W : Nat → Nat) (anc : Nat → Nat) (S : Nat → Prop) (u : St) : Prop where
  len : SameLen (σ 0) u
  places : ∀ x, ∃ j, j ≤ n ∧ (j = 0 ∨ (S (j - 1) ∧ (W (j - 1)).testBit x = true ∧ 0 < j)) ∧ loc u x = loc (σ j) x ∧ ∀ m, S m → m < n → (W m).testBit x = true → m < j
  closed : ∀ m, S m → m < n → ∀ j, j < n → (anc m).testBit j = true → S j
theorem order_sound {f : FuncId} {ops : Array Oper} {s s' : St} (h : adraw P cfg call f ops ops.toList 0 [] [] s = some s') (t : Nat) :
    aops P cfg call f ops (Region.linearise .any ops t) s = some (.normal, s') := by
  obtain ⟨A, F, σ, _, _, hA, hF, h0, hn, tr⟩ := adraw_trace ops.toList 0 [] [] s s' h rfl rfl
  simp only [Nat.zero_add] at hA hF hn tr
  have hsz : ops.toList.length = ops.size := by simp
  rw [hsz] at hA hF hn tr
  let W : Nat → Nat := fun m => (F.getD m (0, 0)).2
  let R : Nat → Nat := fun m => (F.getD m (0, 0)).1
  let anc : Nat → Nat := fun m => A.getD m 0
  have st : ∀ m, m < ops.size → ∃ o, ops[m]? = some o ∧ astep P cfg call f ops o (σ m) = some (.next (σ (m + 1))) ∧ R m = footR cfg f ops o (σ m) ∧ W m = footW cfg f ops o (σ m) ∧
      (∀ j, (anc m).testBit j = true → ∃ e ∈ o.after.toList, Region.binds .any e = true ∧ (e.on = j ∨ (anc e.on).testBit j = true)) ∧ (∀ e ∈ o.after.toList, Region.binds .any e = true → e.on < m) ∧
      ∀ j, j < m → (anc m).testBit j = true ∨ ∀ x, ¬ ((W j).testBit x = true ∧ ((R m).testBit x = true ∨ (W m).testBit x = true)) ∧ ¬ ((R j).testBit x = true ∧ (W m).testBit x = true) := by
    intro m hm
    obtain ⟨o, r, wv, an, b1, b2, b3, b4, b5, b6, b7, b8, b9⟩ := tr.step m (Nat.zero_le _) hm
    have eW : W m = wv := by simp [W, List.getD_eq_getElem?_getD, b3]
    have eR : R m = r := by simp [R, List.getD_eq_getElem?_getD, b3]
    have eA : anc m = an := by simp [anc, List.getD_eq_getElem?_getD, b6]
    refine ⟨o, by simpa using b1, b2, by rw [eR, b4], by rw [eW, b5], fun j hj => ?_, edgesDown_spec b8, fun j hj => ?_⟩
    · rw [eA, b7] at hj
      obtain ⟨e, h1, h2, h3⟩ := ancBits_spec hj
      refine ⟨e, h1, h2, h3.imp id fun h4 => ?_⟩
      have hlt := edgesDown_spec b8 e h1 h2
      simp only [anc]
      rw [List.getD_eq_getElem?_getD] at h4 ⊢
      rwa [List.getElem?_take, if_pos hlt] at h4
    · have hjF : F[j]? = some (R j, W j) := by
        have : j < F.length := by omega
        simp [R, W, List.getD_eq_getElem?_getD, List.getElem?_eq_getElem this]
      have := apartFrom_spec (k := j) (r := R j) (w := W j) b9 (by rw [List.getElem?_take, if_pos hj]; exact hjF)
      rw [eA, eR, eW]; simpa using this
  have hlen : ∀ m, m ≤ ops.size → SameLen (σ 0) (σ m) := by
    intro m
    induction m with
    | zero => intro _; exact ⟨rfl, rfl⟩
    | succ m ih =>
      intro hm
      obtain ⟨o, b1, b2, _⟩ := st m (by omega)
      obtain ⟨_, _, k3, _⟩ := step_local (s' := σ m) ⟨rfl, rfl⟩ b2 (fun _ _ => rfl)
      have := ih (by omega)
      exact ⟨this.1.trans k3.1, this.2.trans k3.2⟩
  have hkeep : ∀ m, m < ops.size → ∀ x, (W m).testBit x = false → loc (σ (m + 1)) x = loc (σ m) x := by
    intro m hm x hx
    obtain ⟨o, b1, b2, b3, b4, _⟩ := st m hm
    obtain ⟨_, _, _, k4, _⟩ := step_local (s' := σ m) ⟨rfl, rfl⟩ b2 (fun _ _ => rfl)
    exact k4 x (by rw [← b4]; exact hx)
  -- from the last writer on nothing turns
  have hrun : ∀ x j i, j ≤ i → i ≤ ops.size → (∀ m, j ≤ m → m < i → (W m).testBit x = false) → loc (σ i) x = loc (σ j) x := by
    intro x j i hji hi hno
    induction i with
    | zero => have : j = 0 := by omega
              subst this; rfl
    | succ i ih =>
      by_cases e : j = i + 1
      · subst e; rfl
      · rw [hkeep i (by omega) x (hno i (by omega) (by omega))]
        exact ih (by omega) (by omega) fun m h1 h2 => hno m h1 (by omega)
  -- one operation more
  have hone : ∀ (S : Nat → Prop) u i, Part ops.size σ W anc S u → i < ops.size → ¬ S i → (∀ o, ops[i]? = some o → ∀ e ∈ o.after.toList, Region.binds .any e = true → S e.on) →
      ∃ o u', ops[i]? = some o ∧ astep P cfg call f ops o u = some (.next u') ∧ Part ops.size σ W anc (fun m => S m ∨ m = i) u' := by
    intro S u i hp hi hSi hed
    obtain ⟨o, b1, b2, b3, b4, b5, b6, b7⟩ := st i hi
    have hanc : ∀ j, j < ops.size → (anc i).testBit j = true → S j := by
      intro j hj hb
      obtain ⟨e, h1, h2, h3⟩ := b5 j hb
      have hSe := hed o b1 e h1 h2
      rcases h3 with rfl | h3
      · exact hSe
      · exact hp.closed e.on hSe (by have := b6 e h1 h2; omega) j hj h3
    have hfor : ∀ x, ((R i).testBit x = true ∨ (W i).testBit x = true) → ∀ m, S m → m < ops.size → (W m).testBit x = true → m < i := by
      intro x hx m hm hmn hw
      rcases Nat.lt_trichotomy m i with h1 | h1 | h1
      · exact h1
      · subst h1; exact absurd hm hSi
      · obtain ⟨om, c1, c2, c3, c4, c5, c6, c7⟩ := st m hmn
        rcases c7 i h1 with h2 | h2
        · exact absurd (hp.closed m hm hmn i hi h2) hSi
        · rcases hx with hx | hx
          · exact absurd ⟨hx, hw⟩ (h2 x).2
          · exact absurd ⟨hx, .inr hw⟩ (h2 x).1
    have hback : ∀ x, (R i).testBit x = true → ∀ m, m < i → (W m).testBit x = true → S m := by
      intro x hx m hm hw
      rcases b7 m hm with h2 | h2
      · exact hanc m (by omega) h2
      · exact absurd ⟨hw, .inl hx⟩ (h2 x).1
    have hl : SameLen (σ i) u := ⟨(hlen i (by omega)).1.symm.trans hp.len.1, (hlen i (by omega)).2.symm.trans hp.len.2⟩
    obtain ⟨k1, k2, k3, k4, u', k5, k6, k7, k8⟩ := step_local hl b2 (s' := u) (fun x hx => by
      rw [← b3] at hx
      obtain ⟨j, j1, j2, j3, j4⟩ := hp.places x
      rw [j3]
      have hji : j ≤ i := by
        rcases j2 with j2 | ⟨j2, j5, j6⟩
        · omega
        · have := hfor x (.inl hx) (j - 1) j2 (by omega) j5; omega
      exact hrun x j i hji (by omega) fun m h1 h2 => by
        cases hw : (W m).testBit x with
        | false => rfl
        | true => have := j4 m (hback x hx m h2 hw) (by omega) hw; omega)
    refine ⟨o, u', b1, k5, ⟨hp.len.1.trans k6.1, hp.len.2.trans k6.2⟩, fun x => ?_, ?_⟩
    · cases hx : (W i).testBit x with
      | true =>
        refine ⟨i + 1, by omega, .inr ⟨.inr (by omega), by simpa using hx, by omega⟩, k7 x (by rw [← b4]; exact hx), fun m hm hmn hw => ?_⟩
        rcases hm with hm | hm
        · have := hfor x (.inr hx) m hm hmn hw; omega
        · omega
      | false =>
        obtain ⟨j, j1, j2, j3, j4⟩ := hp.places x
        refine ⟨j, j1, j2.imp id fun ⟨a, b, c⟩ => ⟨.inl a, b, c⟩, by rw [k8 x (by rw [← b4]; exact hx)]; exact j3, fun m hm hmn hw => ?_⟩
        rcases hm with hm | hm
        · exact j4 m hm hmn hw
        · subst hm; rw [hx] at hw; cases hw
    · intro m hm hmn j hj hb
      rcases hm with hm | hm
      · exact .inl (hp.closed m hm hmn j hj hb)
      · subst hm; exact .inl (hanc j hj hb)
  -- all of them
  have hend : ∀ (S : Nat → Prop) u, Part ops.size σ W anc S u → (∀ m, m < ops.size → S m) → u = s' := by
    intro S u hp hall
    rw [← hn]
    refine loc_ext fun x => ?_
    obtain ⟨j, j1, j2, j3, j4⟩ := hp.places x
    rw [j3]
    symm
    exact hrun x j ops.size j1 (Nat.le_refl _) fun m h1 h2 => by
      cases hw : (W m).testBit x with
      | false => rfl
      | true => have := j4 m (hall m h2) h2 hw; omega
  have hgo : ∀ (fuel t : Nat) (listed : Array Bool) (u : St), listed.size = ops.size → Part ops.size σ W anc (fun m => listed.getD m false = true) u →
      (∃ L : List Nat, L.length ≤ fuel ∧ ∀ j, j < ops.size → listed.getD j false = false → j ∈ L) →
      aops P cfg call f ops (Region.linearise.go .any ops fuel t listed []) u = some (.normal, s') := by
    intro fuel
    induction fuel with
    | zero =>
      intro t listed u hsz hp ⟨L, hL, hL2⟩
      have : L = [] := by simpa using hL
      subst this
      have := hend _ u hp fun m hm => by
        cases hc : listed.getD m false with
        | true => rfl
        | false => have := hL2 m hm hc; simp at this
      simp only [Region.linearise.go, List.reverse_nil, aops, this]
    | succ fuel ih =>
      intro t listed u hsz hp ⟨L, hL, hL2⟩
      simp only [Region.linearise.go]
      change aops P cfg call f ops (match (Region.ready .any ops listed)[t % (Region.ready .any ops listed).length]? with
        | some i => Region.linearise.go .any ops fuel (t / (Region.ready .any ops listed).length) (listed.setIfInBounds i true) [i]
        | none => [].reverse) u = _
      cases hi : (Region.ready .any ops listed)[t % (Region.ready .any ops listed).length]? with
      | none =>
        have hnil : Region.ready .any ops listed = [] := by
          cases hr : Region.ready .any ops listed with
          | nil => rfl
          | cons x xs =>
            rw [hr] at hi
            have hlt : t % (x :: xs).length < (x :: xs).length := Nat.mod_lt _ (by simp)
            simp at hi
            simp at hlt
            omega
        have hall : ∀ m, m < ops.size → listed.getD m false = true := by
          intro m
          induction m using Nat.strongRecOn with
          | _ m ihm =>
            intro hm
            cases hc : listed.getD m false with
            | true => rfl
            | false =>
              obtain ⟨o, b1, b2, b3, b4, b5, b6, b7⟩ := st m hm
              have : m ∈ Region.ready .any ops listed := by
                simp only [Region.ready, List.mem_filter, List.mem_range]
                refine ⟨hm, ?_⟩
                simp only [b1, Option.map_some, Option.getD_some, Bool.and_eq_true, Bool.not_eq_true']
                refine ⟨?_, ?_⟩
                · have hml : m < listed.size := by rw [hsz]; exact hm
                  simp [Array.getD, hml] at hc ⊢; exact hc
                · rw [Array.all_eq_true_iff_forall_mem]
                  intro e he
                  cases hb : Region.binds .any e with
                  | false => simp
                  | true =>
                    have he' : e ∈ o.after.toList := by simpa using he
                    have h1 := b6 e he' hb
                    have := ihm e.on h1 (by omega)
                    simp [this]
              rw [hnil] at this; simp at this
        have := hend _ u hp hall
        simp only [List.reverse_nil, aops, this]
      | some i =>
        simp only []
        rw [linearise_go_acc, List.reverse_singleton, List.singleton_append]
        have hmem := List.mem_of_getElem? hi
        simp only [Region.ready, List.mem_filter, List.mem_range] at hmem
        obtain ⟨hilt, hrest⟩ := hmem
        obtain ⟨o, b1, b2, b3, b4, b5, b6, b7⟩ := st i hilt
        simp only [b1, Option.map_some, Option.getD_some, Bool.and_eq_true, Bool.not_eq_true'] at hrest
        obtain ⟨hr1, hr2⟩ := hrest
        have hil : i < listed.size := by rw [hsz]; exact hilt
        have hif : listed.getD i false = false := by simp [Array.getD, hil] at hr1 ⊢; exact hr1
        obtain ⟨o2, u', c1, c2, c3⟩ := hone _ u i hp hilt (by rw [hif]; simp) (fun o' ho' e he hb => by
          rw [b1] at ho'; cases ho'
          rw [Array.all_eq_true_iff_forall_mem] at hr2
          have := hr2 e (by simpa using he)
          rw [hb] at this; simpa using this)
        have hset : ∀ m, (listed.setIfInBounds i true).getD m false = true ↔ (listed.getD m false = true ∨ m = i) := by
          intro m
          rw [Array.getD_eq_getD_getElem?, Array.getD_eq_getD_getElem?, Array.getElem?_setIfInBounds]
          by_cases e : i = m
          · subst e; simp [hil]
          · have e' : ¬ m = i := fun h => e h.symm
            simp [e, e']
        simp only [aops, c1, c2]
        refine ih _ _ u' (by simp [hsz]) ?_ ⟨L.erase i, ?_, fun j hj hjf => ?_⟩
        · obtain ⟨d1, d2, d3⟩ := c3
          refine ⟨d1, fun x => ?_, fun m hm hmn j hj hb => ?_⟩
          · obtain ⟨j, j1, j2, j3, j4⟩ := d2 x
            exact ⟨j, j1, j2.imp id fun ⟨a, b, c⟩ => ⟨(hset _).2 a, b, c⟩, j3, fun m hm => j4 m ((hset m).1 hm)⟩
          · exact (hset j).2 (d3 m ((hset m).1 hm) hmn j hj hb)
        · rw [List.length_erase_of_mem (hL2 i hilt hif)]; omega
        · have hne : j ≠ i := by rintro rfl; have := (hset j).2 (.inr rfl); rw [this] at hjf; cases hjf
          have hjf' : listed.getD j false = false := by
            cases hc : listed.getD j false with
            | false => rfl
            | true => have := (hset j).2 (.inl hc); rw [this] at hjf; cases hjf
          exact (List.mem_erase_of_ne hne).2 (hL2 j hj hjf')
  unfold Region.linearise
  refine hgo ops.size t _ s (by simp) ?_ ⟨List.range ops.size, by simp, fun j hj _ => by simpa using hj⟩
  have hno : ∀ m, (Array.replicate ops.size false).getD m false = false := by
    intro m
    rw [Array.getD_eq_getD_getElem?, Array.getElem?_replicate]
    split <;> rfl
  refine ⟨by rw [h0]; exact ⟨rfl, rfl⟩, fun x => ⟨0, Nat.zero_le _, .inl rfl, by rw [h0], fun m hm => by rw [hno m] at hm; cases hm⟩, fun m hm => by rw [hno m] at hm; cases hm⟩
/-! ### a region that gives up -/
theorem adrawP_trace {f : FuncId} {ops : Array Oper} : ∀ (l : List Oper) (pv : Option (Nat × AV)) (i : Nat) (ancs : List Nat) (foot : List (Nat × Nat)) (s : St) (v : AV) (s' : St), adrawP P cfg call f ops pv l i ancs foot s = some (v, s') → ancs.length = i → foot.length = i →
    (∀ q w, pv = some (q, w) → q < i) →
    ∃ (A : List Nat) (F : List (Nat × Nat)) (σ : Nat → St) (p : Nat), A.take i = ancs ∧ F.take i = foot ∧ A.length = i + l.length ∧ F.length = i + l.length ∧ σ i = s ∧ σ (i + l.length) = s' ∧ (∀ q w, pv = some (q, w) → p = q ∧ v = w) ∧ (pv = none → i ≤ p ∧ p < i + l.length) ∧
    ∀ m, i ≤ m → m < i + l.length → ∃ o R W anc, l[m - i]? = some o ∧ F[m]? = some (R, W) ∧ A[m]? = some anc ∧ anc = ancBits (A.take m) o.after.toList ∧ edgesDown m o.after.toList = true ∧
      ((p < m ∧ anc.testBit p = true ∧ σ (m + 1) = σ m ∧ R = 0 ∧ W = 0) ∨
       (¬ (p < m ∧ anc.testBit p = true) ∧ R = footR cfg f ops o (σ m) ∧ W = footW cfg f ops o (σ m) ∧ apartFrom anc R W 0 (F.take m) = true ∧
         ((m ≠ p ∧ astep P cfg call f ops o (σ m) = some (.next (σ (m + 1)))) ∨ (m = p ∧ R.testBit 0 = true ∧ W.testBit 0 = true ∧ astep P cfg call f ops o (σ m) = some (.panic v (σ (m + 1))))))) := by
  intro l
  induction l with
  | nil =>
    intro pv i ancs foot s v s' h h1 h2 h3
    cases pv with
    | none => simp [adrawP] at h
    | some q =>
      obtain ⟨q, w⟩ := q
      simp only [adrawP, Option.some.injEq, Prod.mk.injEq] at h
      obtain ⟨rfl, rfl⟩ := h
      exact ⟨ancs, foot, fun _ => s, q, by simp [← h1], by simp [← h2], by simp [h1], by simp [h2], rfl, rfl, fun q' w' e => (by cases e; exact ⟨rfl, rfl⟩), fun e => (by cases e), fun m hm hm2 => (by simp at hm2; omega)⟩
  | cons o r ih =>
    intro pv i ancs foot s v s' h h1 h2 h3
    -- what stands at the end of the lists so far
    have key : ∀ (pv' : Option (Nat × AV)) (R W : Nat) (s1 : St), adrawP P cfg call f ops pv' r (i + 1) (ancs ++ [ancBits ancs o.after.toList]) (foot ++ [(R, W)]) s1 = some (v, s') →
        (∀ q w, pv' = some (q, w) → q < i + 1) → edgesDown i o.after.toList = true →
        (∀ q w, pv = some (q, w) → pv' = some (q, w)) → (pv = none → pv' = none ∨ ∃ w, pv' = some (i, w)) →
        (∀ p, (∀ q w, pv' = some (q, w) → p = q ∧ v = w) → (pv' = none → i + 1 ≤ p) →
          ((p < i ∧ (ancBits ancs o.after.toList).testBit p = true ∧ s1 = s ∧ R = 0 ∧ W = 0) ∨
           (¬ (p < i ∧ (ancBits ancs o.after.toList).testBit p = true) ∧ R = footR cfg f ops o s ∧ W = footW cfg f ops o s ∧ apartFrom (ancBits ancs o.after.toList) R W 0 foot = true ∧
             ((i ≠ p ∧ astep P cfg call f ops o s = some (.next s1)) ∨ (i = p ∧ R.testBit 0 = true ∧ W.testBit 0 = true ∧ astep P cfg call f ops o s = some (.panic v s1)))))) →
        ∃ (A : List Nat) (F : List (Nat × Nat)) (σ : Nat → St) (p : Nat), A.take i = ancs ∧ F.take i = foot ∧ A.length = i + (o :: r).length ∧ F.length = i + (o :: r).length ∧ σ i = s ∧ σ (i + (o :: r).length) = s' ∧ (∀ q w, pv = some (q, w) → p = q ∧ v = w) ∧ (pv = none → i ≤ p ∧ p < i + (o :: r).length) ∧
        ∀ m, i ≤ m → m < i + (o :: r).length → ∃ o' R W anc, (o :: r)[m - i]? = some o' ∧ F[m]? = some (R, W) ∧ A[m]? = some anc ∧ anc = ancBits (A.take m) o'.after.toList ∧ edgesDown m o'.after.toList = true ∧
          ((p < m ∧ anc.testBit p = true ∧ σ (m + 1) = σ m ∧ R = 0 ∧ W = 0) ∨
           (¬ (p < m ∧ anc.testBit p = true) ∧ R = footR cfg f ops o' (σ m) ∧ W = footW cfg f ops o' (σ m) ∧ apartFrom anc R W 0 (F.take m) = true ∧
             ((m ≠ p ∧ astep P cfg call f ops o' (σ m) = some (.next (σ (m + 1)))) ∨ (m = p ∧ R.testBit 0 = true ∧ W.testBit 0 = true ∧ astep P cfg call f ops o' (σ m) = some (.panic v (σ (m + 1))))))) := by
      intro pv' R W s1 hr hlt hed hpv1 hpv2 hstep
      obtain ⟨A, F, σ, p, a1, a2, a3, a4, a5, a6, a7, a8, a9⟩ := ih pv' (i + 1) _ _ s1 v s' hr (by simp [h1]) (by simp [h2]) hlt
      have eA : A.take i = ancs := by
        have := congrArg (List.take i) a1
        rw [List.take_take, Nat.min_eq_left (by omega), List.take_append_of_le_length (by omega), List.take_of_length_le (l := ancs) (by omega)] at this
        exact this
      have eF : F.take i = foot := by
        have := congrArg (List.take i) a2
        rw [List.take_take, Nat.min_eq_left (by omega), List.take_append_of_le_length (by omega), List.take_of_length_le (l := foot) (by omega)] at this
        exact this
      have gA : A[i]? = some (ancBits ancs o.after.toList) := by
        have := congrArg (fun l => l[i]?) a1
        simp only [List.getElem?_take, if_pos (Nat.lt_succ_self i)] at this
        rw [this, List.getElem?_append_right (by omega)]; simp [h1]
      have gF : F[i]? = some (R, W) := by
        have := congrArg (fun l => l[i]?) a2
        simp only [List.getElem?_take, if_pos (Nat.lt_succ_self i)] at this
        rw [this, List.getElem?_append_right (by omega)]; simp [h2]
      have hst := hstep p a7 (fun e => (a8 e).1)
      refine ⟨A, F, fun j => if j = i then s else σ j, p, eA, eF, by simp [a3]; omega, by simp [a4]; omega, by simp, ?_, fun q w e => a7 q w (hpv1 q w e), fun e => ?_, fun m hm hm2 => ?_⟩
      · show (if i + (o :: r).length = i then s else σ (i + (o :: r).length)) = s'
        rw [if_neg (by simp)]
        rw [show i + (o :: r).length = i + 1 + r.length by simp; omega]; exact a6
      · rcases hpv2 e with e' | ⟨w, e'⟩
        · have := a8 e'; simp only [List.length_cons]; omega
        · have := (a7 _ _ e').1; subst this; simp only [List.length_cons]; omega
      · by_cases e : m = i
        · subst e
          refine ⟨o, R, W, _, by simp, gF, gA, by rw [eA], hed, ?_⟩
          simp only [if_true, Nat.succ_ne_self, if_false, a5, eF]
          exact hst
        · obtain ⟨o', R', W', anc, b1, b2, b3, b4, b5, b6⟩ := a9 m (by omega) (by simp at hm2; omega)
          refine ⟨o', R', W', anc, ?_, b2, b3, b4, b5, ?_⟩
          · have : m - i = (m - (i + 1)) + 1 := by omega
            rw [this]; simpa using b1
          · simp only [if_neg e, if_neg (show ¬ m + 1 = i by omega)]; exact b6
    simp only [adrawP] at h
    split at h
    · cases h
    · rename_i hed
      split at h
      · rename_i hb
        cases pv with
        | none => simp [behindP] at hb
        | some q =>
          obtain ⟨q, w⟩ := q
          simp only [behindP] at hb
          have hq := h3 q w rfl
          refine key _ 0 0 s h (fun q' w' e => by have := h3 q' w' e; omega) hed (fun q w e => e) (fun e => by cases e) fun p hp _ => ?_
          have hpq := (hp q w rfl).1
          subst hpq
          exact .inl ⟨hq, hb, rfl, rfl, rfl⟩
      · rename_i hb
        split at h
        · cases h
        · rename_i hap
          have hnb : ∀ p, (∀ q w, pv = some (q, w) → p = q) → (pv = none → i ≤ p) → ¬ (p < i ∧ (ancBits ancs o.after.toList).testBit p = true) := by
            intro p hp hp2 ⟨c1, c2⟩
            cases pv with
            | none => have := hp2 rfl; omega
            | some q =>
              obtain ⟨q, w⟩ := q
              have := hp q w rfl
              subst this
              simp only [behindP] at hb
              rw [hb] at c2; cases c2
          split at h
          · rename_i s1 hs
            refine key _ _ _ s1 h (fun q' w' e => by have := h3 q' w' e; omega) hed (fun q w e => e) (fun e => .inl e) fun p hp hp2 => .inr ⟨hnb p (fun q w e => (hp q w e).1) (fun e => by have := hp2 e; omega), rfl, rfl, hap, .inl ⟨?_, hs⟩⟩
            rintro rfl
            cases pv with
            | none => have := hp2 rfl; omega
            | some q => obtain ⟨q, w⟩ := q; have := (hp q w rfl).1; have := h3 q w rfl; omega
          · rename_i v1 s1 hs
            split at h
            · rename_i hrw
              simp only [Bool.and_eq_true] at hrw
              refine key _ _ _ s1 h (fun q' w' e => by cases e; omega) hed (fun q w e => by cases e) (fun e => .inr ⟨_, rfl⟩) fun p hp hp2 => ?_
              obtain ⟨rfl, rfl⟩ := hp i v1 rfl
              exact .inr ⟨fun hh => by omega, rfl, rfl, hap, .inr ⟨rfl, hrw.1, hrw.2, hs⟩⟩
            · cases h
          · cases h
theorem order_panic {f : FuncId} {ops : Array Oper} {s s' : St} {v : AV} (h : adrawP P cfg call f ops none ops.toList 0 [] [] s = some (v, s')) (t : Nat) :
    ∃ u', aops P cfg call f ops (Region.linearise .any ops t) s = some (.panic v, u') ∧ u'.g = s'.g ∧ SameLen s' u' := by
  obtain ⟨A, F, σ, p, _, _, hA, hF, h0, hn, _, hpp, tr⟩ := adrawP_trace ops.toList none 0 [] [] s v s' h rfl rfl (fun q w e => by cases e)
  have hsz : ops.toList.length = ops.size := by simp
  have hpn : p < ops.size := by have := (hpp rfl).2; omega
  simp only [Nat.zero_add] at hA hF hn tr
  rw [hsz] at hA hF hn tr
  let W : Nat → Nat := fun m => (F.getD m (0, 0)).2
  let R : Nat → Nat := fun m => (F.getD m (0, 0)).1
  let anc : Nat → Nat := fun m => A.getD m 0
  let N : Nat → Prop := fun m => ¬ (p < m ∧ (anc m).testBit p = true)
  have st : ∀ m, m < ops.size → ∃ o, ops[m]? = some o ∧
      (∀ j, (anc m).testBit j = true → ∃ e ∈ o.after.toList, Region.binds .any e = true ∧ (e.on = j ∨ (anc e.on).testBit j = true)) ∧ (∀ e ∈ o.after.toList, Region.binds .any e = true → e.on < m) ∧
      ((¬ N m ∧ σ (m + 1) = σ m ∧ W m = 0) ∨
       (N m ∧ R m = footR cfg f ops o (σ m) ∧ W m = footW cfg f ops o (σ m) ∧
        (∀ j, j < m → (anc m).testBit j = true ∨ ∀ x, ¬ ((W j).testBit x = true ∧ ((R m).testBit x = true ∨ (W m).testBit x = true)) ∧ ¬ ((R j).testBit x = true ∧ (W m).testBit x = true)) ∧
        ((m ≠ p ∧ astep P cfg call f ops o (σ m) = some (.next (σ (m + 1)))) ∨ (m = p ∧ (R m).testBit 0 = true ∧ (W m).testBit 0 = true ∧ astep P cfg call f ops o (σ m) = some (.panic v (σ (m + 1))))))) := by
    intro m hm
    obtain ⟨o, r, wv, an, b1, b2, b3, b4, b5, b6⟩ := tr m (Nat.zero_le _) hm
    have eW : W m = wv := by simp [W, List.getD_eq_getElem?_getD, b2]
    have eR : R m = r := by simp [R, List.getD_eq_getElem?_getD, b2]
    have eA : anc m = an := by simp [anc, List.getD_eq_getElem?_getD, b3]
    refine ⟨o, by simpa using b1, fun j hj => ?_, edgesDown_spec b5, ?_⟩
    · rw [eA, b4] at hj
      obtain ⟨e, h1, h2, h3⟩ := ancBits_spec hj
      refine ⟨e, h1, h2, h3.imp id fun h4 => ?_⟩
      have hlt := edgesDown_spec b5 e h1 h2
      simp only [anc]
      rw [List.getD_eq_getElem?_getD] at h4 ⊢
      rwa [List.getElem?_take, if_pos hlt] at h4
    · simp only [N, eA, eW, eR]
      rcases b6 with ⟨c1, c2, c3, c4, c5⟩ | ⟨c1, c2, c3, c4, c5⟩
      · exact .inl ⟨fun hh => hh ⟨c1, c2⟩, c3, c5⟩
      · refine .inr ⟨c1, c2, c3, fun j hj => ?_, c5⟩
        have hjF : F[j]? = some (R j, W j) := by
          have : j < F.length := by omega
          simp [R, W, List.getD_eq_getElem?_getD, List.getElem?_eq_getElem this]
        have := apartFrom_spec (k := j) (r := R j) (w := W j) c4 (by rw [List.getElem?_take, if_pos hj]; exact hjF)
        simpa using this
  have hstep : ∀ m, m < ops.size → SameLen (σ m) (σ (m + 1)) ∧ ∀ x, (W m).testBit x = false → loc (σ (m + 1)) x = loc (σ m) x := by
    intro m hm
    obtain ⟨o, b1, _, _, b4⟩ := st m hm
    rcases b4 with ⟨_, c2, _⟩ | ⟨_, c2, c3, _, c5⟩
    · rw [c2]; exact ⟨⟨rfl, rfl⟩, fun _ _ => rfl⟩
    · rw [c3]
      rcases c5 with ⟨_, c6⟩ | ⟨_, c6, c7, c8⟩
      · obtain ⟨_, _, k3, k4, _⟩ := step_local (s' := σ m) ⟨rfl, rfl⟩ c6 (fun _ _ => rfl)
        exact ⟨k3, k4⟩
      · rw [c2] at c6; rw [c3] at c7
        obtain ⟨k3, k4, _⟩ := step_panic (s' := σ m) ⟨rfl, rfl⟩ c8 (fun _ _ => rfl) c6 c7
        exact ⟨k3, k4⟩
  have hlen : ∀ m, m ≤ ops.size → SameLen (σ 0) (σ m) := by
    intro m
    induction m with
    | zero => intro _; exact ⟨rfl, rfl⟩
    | succ m ih =>
      intro hm
      have := ih (by omega)
      have k3 := (hstep m (by omega)).1
      exact ⟨this.1.trans k3.1, this.2.trans k3.2⟩
  have hrun : ∀ x j i, j ≤ i → i ≤ ops.size → (∀ m, j ≤ m → m < i → (W m).testBit x = false) → loc (σ i) x = loc (σ j) x := by
    intro x j i hji hi hno
    induction i with
    | zero => have : j = 0 := by omega
              subst this; rfl
    | succ i ih =>
      by_cases e : j = i + 1
      · subst e; rfl
      · rw [(hstep i (by omega)).2 x (hno i (by omega) (by omega))]
        exact ih (by omega) (by omega) fun m h1 h2 => hno m h1 (by omega)
  -- where an operation looks, there lies what lay there in the text's order
  have hagree : ∀ (S : Nat → Prop) u i, Part ops.size σ W anc S u → (∀ m, S m → m < ops.size → N m ∧ m ≠ p) → i < ops.size → N i → ¬ S i → (∀ o, ops[i]? = some o → ∀ e ∈ o.after.toList, Region.binds .any e = true → S e.on) →
      (∀ x, (R i).testBit x = true → loc (σ i) x = loc u x) ∧ (∀ j, j < ops.size → (anc i).testBit j = true → S j) ∧ (∀ x, (W i).testBit x = true → ∀ m, S m → m < ops.size → (W m).testBit x = true → m < i) := by
    intro S u i hp hSN hi hNi hSi hed
    obtain ⟨o, b1, b5, b6, b7⟩ := st i hi
    rcases b7 with ⟨c1, _⟩ | ⟨_, b3, b4, b7, _⟩
    · exact absurd hNi c1
    have hanc : ∀ j, j < ops.size → (anc i).testBit j = true → S j := by
      intro j hj hb
      obtain ⟨e, h1, h2, h3⟩ := b5 j hb
      have hSe := hed o b1 e h1 h2
      rcases h3 with rfl | h3
      · exact hSe
      · exact hp.closed e.on hSe (by have := b6 e h1 h2; omega) j hj h3
    have hfor : ∀ x, ((R i).testBit x = true ∨ (W i).testBit x = true) → ∀ m, S m → m < ops.size → (W m).testBit x = true → m < i := by
      intro x hx m hm hmn hw
      rcases Nat.lt_trichotomy m i with h1 | h1 | h1
      · exact h1
      · subst h1; exact absurd hm hSi
      · obtain ⟨om, c1, c5, c6, c7⟩ := st m hmn
        rcases c7 with ⟨d1, _⟩ | ⟨_, d3, d4, c7, _⟩
        · exact absurd (hSN m hm hmn).1 d1
        rcases c7 i h1 with h2 | h2
        · exact absurd (hp.closed m hm hmn i hi h2) hSi
        · rcases hx with hx | hx
          · exact absurd ⟨hx, hw⟩ (h2 x).2
          · exact absurd ⟨hx, .inr hw⟩ (h2 x).1
    have hback : ∀ x, (R i).testBit x = true → ∀ m, m < i → (W m).testBit x = true → S m := by
      intro x hx m hm hw
      rcases b7 m hm with h2 | h2
      · exact hanc m (by omega) h2
      · exact absurd ⟨hw, .inl hx⟩ (h2 x).1
    refine ⟨fun x hx => ?_, hanc, fun x hx => hfor x (.inr hx)⟩
    obtain ⟨j, j1, j2, j3, j4⟩ := hp.places x
    rw [j3]
    have hji : j ≤ i := by
      rcases j2 with j2 | ⟨j2, j5, j6⟩
      · omega
      · have := hfor x (.inl hx) (j - 1) j2 (by omega) j5; omega
    exact hrun x j i hji (by omega) fun m h1 h2 => by
      cases hw : (W m).testBit x with
      | false => rfl
      | true => have := j4 m (hback x hx m h2 hw) (by omega) hw; omega
  have hone : ∀ (S : Nat → Prop) u i, Part ops.size σ W anc S u → (∀ m, S m → m < ops.size → N m ∧ m ≠ p) → i < ops.size → N i → i ≠ p → ¬ S i → (∀ o, ops[i]? = some o → ∀ e ∈ o.after.toList, Region.binds .any e = true → S e.on) →
      ∃ o u', ops[i]? = some o ∧ astep P cfg call f ops o u = some (.next u') ∧ Part ops.size σ W anc (fun m => S m ∨ m = i) u' := by
    intro S u i hp hSN hi hNi hip hSi hed
    obtain ⟨hag, hanc, hforW⟩ := hagree S u i hp hSN hi hNi hSi hed
    obtain ⟨o, b1, b5, b6, b7⟩ := st i hi
    rcases b7 with ⟨c1, _⟩ | ⟨_, b3, b4, b7, b8⟩
    · exact absurd hNi c1
    rcases b8 with ⟨_, b2⟩ | ⟨c1, _⟩
    rotate_left
    · exact absurd c1 hip
    have hl : SameLen (σ i) u := ⟨(hlen i (by omega)).1.symm.trans hp.len.1, (hlen i (by omega)).2.symm.trans hp.len.2⟩
    obtain ⟨k1, k2, k3, k4, u', k5, k6, k7, k8⟩ := step_local hl b2 (s' := u) (fun x hx => by rw [← b3] at hx; exact hag x hx)
    refine ⟨o, u', b1, k5, ⟨hp.len.1.trans k6.1, hp.len.2.trans k6.2⟩, fun x => ?_, ?_⟩
    · cases hx : (W i).testBit x with
      | true =>
        refine ⟨i + 1, by omega, .inr ⟨.inr (by omega), by simpa using hx, by omega⟩, k7 x (by rw [← b4]; exact hx), fun m hm hmn hw => ?_⟩
        rcases hm with hm | hm
        · have := hforW x hx m hm hmn hw; omega
        · omega
      | false =>
        obtain ⟨j, j1, j2, j3, j4⟩ := hp.places x
        refine ⟨j, j1, j2.imp id fun ⟨a, b, c⟩ => ⟨.inl a, b, c⟩, by rw [k8 x (by rw [← b4]; exact hx)]; exact j3, fun m hm hmn hw => ?_⟩
        rcases hm with hm | hm
        · exact j4 m hm hmn hw
        · subst hm; rw [hx] at hw; cases hw
    · intro m hm hmn j hj hb
      rcases hm with hm | hm
      · exact .inl (hp.closed m hm hmn j hj hb)
      · subst hm; exact .inl (hanc j hj hb)
  have hend : ∀ (S : Nat → Prop) u, Part ops.size σ W anc S u → (∀ m, S m → m < ops.size → N m ∧ m ≠ p) → (∀ o, ops[p]? = some o → ∀ e ∈ o.after.toList, Region.binds .any e = true → S e.on) →
      ∃ o u', ops[p]? = some o ∧ astep P cfg call f ops o u = some (.panic v u') ∧ u'.g = s'.g ∧ SameLen s' u' := by
    intro S u hp hSN hed
    have hNp : N p := fun hh => by omega
    obtain ⟨hag, _, _⟩ := hagree S u p hp hSN hpn hNp (fun hh => (hSN p hh hpn).2 rfl) hed
    obtain ⟨o, b1, b5, b6, b7⟩ := st p hpn
    rcases b7 with ⟨c1, _⟩ | ⟨_, b3, b4, b7, b8⟩
    · exact absurd hNp c1
    rcases b8 with ⟨c1, _⟩ | ⟨_, c6, c7, c8⟩
    · exact absurd rfl c1
    have hl : SameLen (σ p) u := ⟨(hlen p (by omega)).1.symm.trans hp.len.1, (hlen p (by omega)).2.symm.trans hp.len.2⟩
    have c6' := c6; have c7' := c7
    rw [b3] at c6'; rw [b4] at c7'
    obtain ⟨_, _, u', k1, k2, k3⟩ := step_panic hl c8 (s' := u) (fun x hx => by rw [← b3] at hx; exact hag x hx) c6' c7'
    refine ⟨o, u', b1, k1, ?_, ?_⟩
    · have : loc (σ ops.size) 0 = loc (σ (p + 1)) 0 := hrun 0 (p + 1) ops.size (by omega) (Nat.le_refl _) fun m h1 h2 => by
        obtain ⟨om, d1, d5, d6, d7⟩ := st m h2
        rcases d7 with ⟨_, _, d8⟩ | ⟨d8, d3, d4, d7, _⟩
        · rw [d8]; exact Nat.zero_testBit 0
        · rcases d7 p (by omega) with d9 | d9
          · exact absurd ⟨by omega, d9⟩ d8
          · cases hw : (W m).testBit 0 with
            | false => rfl
            | true => exact absurd ⟨c6, hw⟩ (d9 0).2
      rw [hn] at this
      simp only [loc_0, LVal.g.injEq] at this
      rw [k3, this]
    · have h1 := hlen ops.size (Nat.le_refl _)
      rw [hn] at h1
      exact ⟨h1.1.symm.trans (hp.len.1.trans k2.1), h1.2.symm.trans (hp.len.2.trans k2.2)⟩
  have hgo : ∀ (fuel t : Nat) (listed : Array Bool) (u : St), listed.size = ops.size → Part ops.size σ W anc (fun m => listed.getD m false = true) u → (∀ m, listed.getD m false = true → m < ops.size → N m ∧ m ≠ p) →
      (∃ L : List Nat, L.length ≤ fuel ∧ ∀ j, j < ops.size → listed.getD j false = false → j ∈ L) →
      ∃ u', aops P cfg call f ops (Region.linearise.go .any ops fuel t listed []) u = some (.panic v, u') ∧ u'.g = s'.g ∧ SameLen s' u' := by
    intro fuel
    induction fuel with
    | zero =>
      intro t listed u hsz hp hSN ⟨L, hL, hL2⟩
      have : L = [] := by simpa using hL
      subst this
      cases hc : listed.getD p false with
      | true => exact absurd rfl (hSN p hc hpn).2
      | false => have := hL2 p hpn hc; simp at this
    | succ fuel ih =>
      intro t listed u hsz hp hSN ⟨L, hL, hL2⟩
      simp only [Region.linearise.go]
      change ∃ u', aops P cfg call f ops (match (Region.ready .any ops listed)[t % (Region.ready .any ops listed).length]? with
        | some i => Region.linearise.go .any ops fuel (t / (Region.ready .any ops listed).length) (listed.setIfInBounds i true) [i]
        | none => [].reverse) u = _ ∧ _
      cases hi : (Region.ready .any ops listed)[t % (Region.ready .any ops listed).length]? with
      | none =>
        have hnil : Region.ready .any ops listed = [] := by
          cases hr : Region.ready .any ops listed with
          | nil => rfl
          | cons x xs =>
            rw [hr] at hi
            have hlt : t % (x :: xs).length < (x :: xs).length := Nat.mod_lt _ (by simp)
            simp at hi
            simp at hlt
            omega
        have hall : ∀ m, m < ops.size → listed.getD m false = true := by
          intro m
          induction m using Nat.strongRecOn with
          | _ m ihm =>
            intro hm
            cases hc : listed.getD m false with
            | true => rfl
            | false =>
              obtain ⟨o, b1, b5, b6, b7⟩ := st m hm
              have : m ∈ Region.ready .any ops listed := by
                simp only [Region.ready, List.mem_filter, List.mem_range]
                refine ⟨hm, ?_⟩
                simp only [b1, Option.map_some, Option.getD_some, Bool.and_eq_true, Bool.not_eq_true']
                refine ⟨?_, ?_⟩
                · have hml : m < listed.size := by rw [hsz]; exact hm
                  simp [Array.getD, hml] at hc ⊢; exact hc
                · rw [Array.all_eq_true_iff_forall_mem]
                  intro e he
                  cases hb : Region.binds .any e with
                  | false => simp
                  | true =>
                    have he' : e ∈ o.after.toList := by simpa using he
                    have h1 := b6 e he' hb
                    have := ihm e.on h1 (by omega)
                    simp [this]
              rw [hnil] at this; simp at this
        exact absurd rfl (hSN p (hall p hpn) hpn).2
      | some i =>
        simp only []
        rw [linearise_go_acc, List.reverse_singleton, List.singleton_append]
        have hmem := List.mem_of_getElem? hi
        simp only [Region.ready, List.mem_filter, List.mem_range] at hmem
        obtain ⟨hilt, hrest⟩ := hmem
        obtain ⟨o, b1, b5, b6, b7⟩ := st i hilt
        simp only [b1, Option.map_some, Option.getD_some, Bool.and_eq_true, Bool.not_eq_true'] at hrest
        obtain ⟨hr1, hr2⟩ := hrest
        have hil : i < listed.size := by rw [hsz]; exact hilt
        have hif : listed.getD i false = false := by simp [Array.getD, hil] at hr1 ⊢; exact hr1
        have hed : ∀ o', ops[i]? = some o' → ∀ e ∈ o'.after.toList, Region.binds .any e = true → listed.getD e.on false = true := fun o' ho' e he hb => by
          rw [b1] at ho'; cases ho'
          rw [Array.all_eq_true_iff_forall_mem] at hr2
          have := hr2 e (by simpa using he)
          rw [hb] at this; simpa using this
        by_cases hip : i = p
        · subst hip
          obtain ⟨o2, u', c1, c2, c3⟩ := hend _ u hp hSN hed
          refine ⟨u', ?_, c3⟩
          simp only [aops, c1, c2]
        · have hNi : N i := fun ⟨d1, d2⟩ => by
            obtain ⟨e, e1, e2, e3⟩ := b5 p d2
            have hSe := hed o b1 e e1 e2
            rcases e3 with e3 | e3
            · rw [e3] at hSe; exact (hSN p hSe hpn).2 rfl
            · exact (hSN p (hp.closed e.on hSe (by have := b6 e e1 e2; omega) p hpn e3) hpn).2 rfl
          obtain ⟨o2, u', c1, c2, c3⟩ := hone _ u i hp hSN hilt hNi hip (by rw [hif]; simp) hed
          have hset : ∀ m, (listed.setIfInBounds i true).getD m false = true ↔ (listed.getD m false = true ∨ m = i) := by
            intro m
            rw [Array.getD_eq_getD_getElem?, Array.getD_eq_getD_getElem?, Array.getElem?_setIfInBounds]
            by_cases e : i = m
            · subst e; simp [hil]
            · have e' : ¬ m = i := fun h => e h.symm
              simp [e, e']
          simp only [aops, c1, c2]
          refine ih _ _ u' (by simp [hsz]) ?_ (fun m hm hmn => ?_) ⟨L.erase i, ?_, fun j hj hjf => ?_⟩
          · obtain ⟨d1, d2, d3⟩ := c3
            refine ⟨d1, fun x => ?_, fun m hm hmn j hj hb => ?_⟩
            · obtain ⟨j, j1, j2, j3, j4⟩ := d2 x
              exact ⟨j, j1, j2.imp id fun ⟨a, b, c⟩ => ⟨(hset _).2 a, b, c⟩, j3, fun m hm => j4 m ((hset m).1 hm)⟩
            · exact (hset j).2 (d3 m ((hset m).1 hm) hmn j hj hb)
          · rcases (hset m).1 hm with hm | rfl
            · exact hSN m hm hmn
            · exact ⟨hNi, hip⟩
          · rw [List.length_erase_of_mem (hL2 i hilt hif)]; omega
          · have hne : j ≠ i := by rintro rfl; have := (hset j).2 (.inr rfl); rw [this] at hjf; cases hjf
            have hjf' : listed.getD j false = false := by
              cases hc : listed.getD j false with
              | false => rfl
              | true => have := (hset j).2 (.inl hc); rw [this] at hjf; cases hjf
            exact (List.mem_erase_of_ne hne).2 (hL2 j hj hjf')
  unfold Region.linearise
  have hno : ∀ m, (Array.replicate ops.size false).getD m false = false := by
    intro m
    rw [Array.getD_eq_getD_getElem?, Array.getElem?_replicate]
    split <;> rfl
  refine hgo ops.size t _ s (by simp) ?_ (fun m hm => by rw [hno m] at hm; cases hm) ⟨List.range ops.size, by simp, fun j hj _ => by simpa using hj⟩
  refine ⟨by rw [h0]; exact ⟨rfl, rfl⟩, fun x => ⟨0, Nat.zero_le _, .inl rfl, by rw [h0], fun m hm => by rw [hno m] at hm; cases hm⟩, fun m hm => by rw [hno m] at hm; cases hm⟩
end
end Go.Eng
end

section
/-
  THE ENGINE, part 14: code.
-/
set_option linter.unusedVariables false
set_option linter.unusedSimpArgs false
namespace Go.Eng
theorem lowss_flatten (n : Nat) : ∀ l : List (List AV), lowss n l = true → lows n l.flatten = true := by
  have app : ∀ a b : List AV, lows n a = true → lows n b = true → lows n (a ++ b) = true := by
    intro a
    induction a with
    | nil => intro b _ h; exact h
    | cons x a ih =>
      intro b h1 h2
      simp only [lows, Bool.and_eq_true, List.cons_append] at h1 ⊢
      exact ⟨h1.1, ih b h1.2 h2⟩
  intro l
  induction l with
  | nil => intro _; simp [lows]
  | cons x l ih =>
    intro h
    simp only [lowss, Bool.and_eq_true] at h
    rw [List.flatten_cons]
    exact app _ _ h.1 (ih h.2)
theorem RepL.take_mu {I : Mem} {μ : List Nat} {n : Nat} {vs : List Value} {as : List AV} (h : RepL I μ vs as) (hl : lows n as = true) : RepL I (μ.take n) vs as := by
  induction h with
  | nil => exact .nil
  | any v _ ih => simp only [lows, Bool.and_eq_true] at hl; exact .any v (ih hl.2)
  | val v _ ih => simp only [lows, Bool.and_eq_true] at hl; exact .val v (ih hl.2)
  | slice0 sz own _ ih => simp only [lows, Bool.and_eq_true] at hl; exact .slice0 sz own (ih hl.2)
  | slice b o cap sz ws rows own hr _ h1 h2 h3 _ ih1 ih2 =>
    simp only [lows, AV.low, Bool.and_eq_true] at hl
    exact .slice b o cap sz ws rows own hr (ih1 (lowss_flatten n rows hl.1)) h1 h2 h3 (ih2 hl.2)
  | slice1 a cap sz own ho _ ih => simp only [lows, Bool.and_eq_true] at hl; exact .slice1 a cap sz own ho (ih hl.2)
  | ref b o ws cs hr _ _ ih1 ih2 => simp only [lows, AV.low, Bool.and_eq_true] at hl; exact .ref b o ws cs hr (ih1 hl.1) (ih2 hl.2)
  | ptr id off b hb _ ih =>
    simp only [lows, AV.low, Bool.and_eq_true, Nat.blt_eq] at hl
    exact .ptr id off b (by rw [List.getElem?_take, if_pos hl.1]; exact hb) (ih hl.2)
  | func fn f c af ac _ _ _ ih1 ih2 ih3 => simp only [lows, AV.low, Bool.and_eq_true] at hl; exact .func fn f c af ac (ih1 hl.1.1) (ih2 hl.1.2) (ih3 hl.2)
  | iface t v a _ _ ih1 ih2 => simp only [lows, AV.low, Bool.and_eq_true] at hl; exact .iface t v a (ih1 (by simp only [lows, Bool.and_true]; exact hl.1)) (ih2 hl.2)
  | agg cs acs ho _ _ ih1 ih2 => simp only [lows, AV.low, Bool.and_eq_true] at hl; exact .agg cs acs ho (ih1 hl.1) (ih2 hl.2)
  | tuple ws aws _ _ ih1 ih2 => simp only [lows, AV.low, Bool.and_eq_true] at hl; exact .tuple ws aws (ih1 hl.1) (ih2 hl.2)
theorem count_take (b : Nat) : ∀ (l : List Nat) (n : Nat), (l.take n).count b ≤ l.count b := fun l n => (List.take_sublist n l).count_le b
theorem zsum_take {α β : Type} (f : α → β → Nat) : ∀ (n : Nat) (l : List α) (m : List β), zsum f (l.take n) (m.take n) ≤ zsum f l m
  | 0, l, m => by simp [zsum]
  | n + 1, [], m => by simp [zsum]
  | n + 1, a :: l, [] => by simp [zsum]
  | n + 1, a :: l, b :: m => by
    have := zsum_take f n l m
    simp only [List.take_succ_cons, zsum]; omega
theorem lowss_get {n : Nat} : ∀ {H : Heap} {i : Nat} {cs : List AV}, lowss n H = true → H[i]? = some cs → lows n cs = true := by
  intro H
  induction H with
  | nil => intro i cs _ h; simp at h
  | cons a H ih =>
    intro i cs h hi
    simp only [lowss, Bool.and_eq_true] at h
    cases i with
    | zero => simp only [List.getElem?_cons_zero, Option.some.injEq] at hi; subst hi; exact h.1
    | succ i => simp only [List.getElem?_cons_succ] at hi; exact ih h.2 hi
theorem HInv.take {J : Mem} {ν : List Nat} {HV : List (List Value)} {w : World} {H : Heap} {n : Nat} (h : HInv J ν HV w H) (hl : lowss n (H.take n) = true) : HInv J (ν.take n) (HV.take n) w (H.take n) := by
  refine ⟨h.imm, by simp [h.l1], by simp [h.l2], ?_⟩
  intro id b ws cs h1 h2 h3
  have hlow := lowss_get hl h3
  rw [List.getElem?_take] at h1 h2 h3
  split at h1
  · rename_i hlt
    rw [if_pos hlt] at h2 h3
    obtain ⟨a1, a2, a3, a4, a5⟩ := h.ok id b ws cs h1 h2 h3
    exact ⟨a1, a2.take_mu hlow, a3, a4, a5⟩
  · cases h1
theorem TRep.take_mu {I : Mem} {μ : List Nat} {lh : List (Option LCell)} {lv : List LV} {n : Nat} {v : Value} {a : AV} (h : TRep I μ lh lv v a) (hl : a.low n = true) : TRep I (μ.take n) lh lv v a := by
  have key : ∀ {a : AV}, a.low n = true → Rep I μ v a → Rep I (μ.take n) v a := fun {a} hl h => h.take_mu (by simp only [lows, Bool.and_true]; exact hl)
  cases a <;> first | exact h | exact key hl h
theorem lows_get {n : Nat} : ∀ {l : List AV} {i : Nat} {a : AV}, lows n l = true → l[i]? = some a → a.low n = true := by
  intro l
  induction l with
  | nil => intro i a _ h; simp at h
  | cons b l ih =>
    intro i a h hi
    simp only [lows, Bool.and_eq_true] at h
    cases i with
    | zero => simp only [List.getElem?_cons_zero, Option.some.injEq] at hi; subst hi; exact h.1
    | succ i => simp only [List.getElem?_cons_succ] at hi; exact ih h.2 hi
theorem lowL_get {n : Nat} : ∀ {l : List (Option LCell)} {i g : Nat} {cs : List AV}, lowL n l = true → l[i]? = some (some (g, cs)) → lows n cs = true := by
  intro l
  induction l with
  | nil => intro i g cs _ h; simp at h
  | cons b l ih =>
    intro i g cs h hi
    cases i with
    | zero =>
      simp only [List.getElem?_cons_zero, Option.some.injEq] at hi; subst hi
      simp only [lowL, Bool.and_eq_true] at h; exact h.1
    | succ i =>
      simp only [List.getElem?_cons_succ] at hi
      cases b with
      | none => simp only [lowL] at h; exact ih h hi
      | some c => obtain ⟨g', cs'⟩ := c; simp only [lowL, Bool.and_eq_true] at h; exact ih h.2 hi
theorem DRel.take_mu {I : Mem} {μ : List Nat} {n : Nat} : ∀ {ds : List Deferred} {as : List ADef}, DRel I μ ds as → lowD n as = true → DRel I (μ.take n) ds as
  | [], [], h, _ => h
  | d :: ds, a :: as, h, hl => by
    simp only [lowD, Bool.and_eq_true] at hl
    obtain ⟨cap, h1, h2, h3⟩ := h.1
    exact ⟨⟨cap, h1, h2.take_mu hl.1, h3⟩, DRel.take_mu h.2 hl.2⟩
  | [], _ :: _, h, _ => h.elim
  | _ :: _, [], h, _ => h.elim
theorem RmOk.take_mu {I : Mem} {μ : List Nat} {n : Nat} {cs0 cs : List Frame} {rm : RM} (h : RmOk I μ cs0 cs rm) (hl : lowRM n rm = true) : RmOk I (μ.take n) cs0 cs rm := by
  cases rm with
  | none => exact h
  | returning => obtain ⟨c, r, u, h1, h2, h3⟩ := h; exact ⟨c, r, u, h1, h2, h3⟩
  | panicking v b =>
    obtain ⟨c, r, u, h1, h2, x, o, h3, h4, h5⟩ := h
    exact ⟨c, r, u, h1, h2, x, o, h3, h4, h5.take_mu (by simp only [lows, Bool.and_true]; exact hl)⟩
section
variable {P : Program} {cfg : FuncId → FCfg} {call : FuncId → List AV → RM → Heap → Option CRes} {B : Base} {I J : Mem} {μ ν : List Nat}
theorem maskTmps_get (m : Nat) : ∀ (l : List AV) (i j : Nat), (maskTmps m i l)[j]? = (l[j]?).map fun v => if m.testBit (i + j) then v else .any
  | [], i, j => by simp [maskTmps]
  | v :: r, i, 0 => by simp [maskTmps]
  | v :: r, i, j + 1 => by
    simp only [maskTmps, List.getElem?_cons_succ]
    rw [maskTmps_get m r (i + 1) j, show i + 1 + j = i + (j + 1) by omega]
theorem maskTmps_length (m : Nat) : ∀ (l : List AV) (i : Nat), (maskTmps m i l).length = l.length
  | [], i => rfl
  | v :: r, i => by simp [maskTmps, maskTmps_length m r]
theorem maskLh_get (m : Nat) : ∀ (l : List (Option LCell)) (i j : Nat), (maskLh m i l)[j]? = (l[j]?).map fun v => if m.testBit (i + j) then v else none
  | [], i, j => by simp [maskLh]
  | v :: r, i, 0 => by simp [maskLh]
  | v :: r, i, j + 1 => by
    simp only [maskLh, List.getElem?_cons_succ]
    rw [maskLh_get m r (i + 1) j, show i + 1 + j = i + (j + 1) by omega]
theorem maskLh_length (m : Nat) : ∀ (l : List (Option LCell)) (i : Nat), (maskLh m i l).length = l.length
  | [], i => rfl
  | v :: r, i => by simp [maskLh, maskLh_length m r]
def maskLv (m : Nat) : Nat → List LV → List LV
  | _, [] => []
  | i, c :: r => (if m.testBit i then c else none) :: maskLv m (i + 1) r
theorem maskLv_get (m : Nat) : ∀ (l : List LV) (i j : Nat), (maskLv m i l)[j]? = (l[j]?).map fun v => if m.testBit (i + j) then v else none
  | [], i, j => by simp [maskLv]
  | v :: r, i, 0 => by simp [maskLv]
  | v :: r, i, j + 1 => by
    simp only [maskLv, List.getElem?_cons_succ]
    rw [maskLv_get m r (i + 1) j, show i + 1 + j = i + (j + 1) by omega]
theorem maskLv_length (m : Nat) : ∀ (l : List LV) (i : Nat), (maskLv m i l).length = l.length
  | [], i => rfl
  | v :: r, i => by simp [maskLv, maskLv_length m r]
theorem tcs_mask_le (m b : Nat) : ∀ (vs : List Value) (tm : List AV) (i : Nat), tcs b vs (maskTmps m i tm) ≤ tcs b vs tm
  | [], _, _ => by simp [zsum]
  | v :: vs, [], _ => by simp [maskTmps, zsum]
  | v :: vs, a :: tm, i => by
    have := tcs_mask_le m b vs tm (i + 1)
    simp only [maskTmps, zsum, tcs] at *
    have h2 : tc b v (if m.testBit i = true then a else .any) ≤ tc b v a := by
      split
      · exact Nat.le_refl _
      · have : tc b v .any = 0 := by unfold tc; split <;> simp_all
        omega
    omega
theorem lc_mask_le (m b : Nat) : ∀ (lv : List LV) (lh : List (Option LCell)) (i : Nat), zsum (lc b) (maskLv m i lv) (maskLh m i lh) ≤ zsum (lc b) lv lh
  | [], _, _ => by simp [maskLv, zsum]
  | v :: vs, [], _ => by simp [maskLh, maskLv, zsum]
  | v :: vs, a :: tm, i => by
    have := lc_mask_le m b vs tm (i + 1)
    simp only [maskLv, maskLh, zsum] at *
    have h2 : lc b (if m.testBit i = true then v else none) (if m.testBit i = true then a else none) ≤ lc b v a := by
      split
      · exact Nat.le_refl _
      · exact Nat.zero_le _
    omega
theorem mask_sound0 {s : St} {a : Act} {cs : List Frame} {w : World} {HV : List (List Value)} {lv : List LV} (h : Good B s a cs w I μ HV lv) {m : Nat} (hall : (maskTmps m 0 s.tmps).all (lpIn m) = true) :
    ∃ lv', Good B { s with tmps := maskTmps m 0 s.tmps, lh := maskLh m 0 s.lh } a cs w I μ HV lv' := by
  refine ⟨maskLv m 0 lv, ⟨⟨h.inv.h, ⟨by rw [maskTmps_length]; exact h.inv.tms.1, ?_⟩, ?_, by rw [maskLv_length, maskLh_length]; exact h.inv.ll, ?_, ?_⟩, h.df, h.rm, h.dk, h.eff, ?_, h.mu, h.bs⟩⟩
  · intro i v x hv hx
    have hx0 := hx
    rw [maskTmps_get] at hx
    cases hy : s.tmps[i]? with
    | none => simp [hy] at hx
    | some y =>
      simp only [hy, Option.map_some, Option.some.injEq] at hx
      by_cases hb : m.testBit (0 + i) = true
      · rw [if_pos hb] at hx; subst hx
        have h1 := h.inv.tms.2 i v y hv hy
        cases y with
        | lp t g off =>
          obtain ⟨g', cs1, b1, ws1, e1, e2, e3, e4⟩ := h1
          have hl := List.all_eq_true.1 hall _ (List.mem_of_getElem? hx0)
          simp only [lpIn] at hl
          exact ⟨g', cs1, b1, ws1, by rw [maskLh_get, e1]; simp [hl], by rw [maskLv_get, e2]; simp [hl], e3, e4⟩
        | _ => exact h1
      · rw [if_neg hb] at hx; subst hx; exact .any _ .nil
  · intro i v x hv hx
    rw [maskTmps_get] at hx
    cases hy : s.tmps[i]? with
    | none => simp [hy] at hx
    | some y =>
      simp only [hy, Option.map_some, Option.some.injEq] at hx
      by_cases hb : m.testBit (0 + i) = true
      · rw [if_pos hb] at hx; subst hx; exact h.inv.sp i v y hv hy
      · rw [if_neg hb] at hx; subst hx; intro _ _ _ _ _ _ _ h; cases h
  · intro t d c hd hc
    rw [maskLv_get] at hd
    rw [maskLh_get] at hc
    cases hd0 : lv[t]? with
    | none => simp [hd0] at hd
    | some d0 =>
      cases hc0 : s.lh[t]? with
      | none => simp [hc0] at hc
      | some c0 =>
        simp only [hd0, hc0, Option.map_some, Option.some.injEq] at hd hc
        by_cases hb : m.testBit (0 + t) = true
        · rw [if_pos hb] at hd hc; subst hd hc; exact h.inv.lo t d0 c0 hd0 hc0
        · rw [if_neg hb] at hd hc; subst hd hc; trivial
  · intro b
    have h1 := h.inv.one b
    have h2 := tcs_mask_le m b a.tmps.toList s.tmps 0
    have h3 := lc_mask_le m b lv s.lh 0
    simp only
    omega
  · intro b hb
    have h2 := tcs_mask_le m b a.tmps.toList s.tmps 0
    have h3 := lc_mask_le m b lv s.lh 0
    refine h.tk b ?_
    unfold tok at *
    simp only at hb
    omega
theorem cut_sound {s : St} {a : Act} {cs : List Frame} {w : World} {HV : List (List Value)} {lv : List LV} (h : Good B s a cs w I μ HV lv) : ∃ μ' HV', Good B (cutSt s) a cs w I μ' HV' lv := by
  unfold cutSt
  split
  · exact ⟨_, _, h⟩
  · split
    · rename_i hl
      unfold lowSt at hl
      simp only [Bool.and_eq_true] at hl
      obtain ⟨l1, l2, l3, l4, l5⟩ := hl
      have le : ∀ b, (μ.take s.g.base).count b + tcss b (HV.take s.g.base) (s.g.H.take s.g.base) ≤ μ.count b + tcss b HV s.g.H := by
        intro b
        have h1 := count_take b μ s.g.base
        have h2 : tcss b (HV.take s.g.base) (s.g.H.take s.g.base) ≤ tcss b HV s.g.H := zsum_take _ s.g.base _ _
        omega
      refine ⟨μ.take s.g.base, HV.take s.g.base, ⟨h.inv.h.take l5, ⟨h.inv.tms.1, fun i v a hv ha => (h.inv.tms.2 i v a hv ha).take_mu (lows_get l1 ha)⟩, h.inv.sp, h.inv.ll, ?_, ?_⟩, h.df.take_mu l3, h.rm.take_mu l4, h.dk, h.eff, ?_, ?_, h.bs⟩
      · intro t d c hd hc
        have := h.inv.lo t d c hd hc
        unfold LocOk at this ⊢
        split
        · obtain ⟨a1, a2, a3, a4, a5⟩ := this
          exact ⟨a1, a2.take_mu (lowL_get l2 hc), a3, a4, a5⟩
        · trivial
        · rename_i n1 n2
          split at this
          · exact absurd rfl (n1 _ _ _ _ rfl)
          · exact absurd rfl (n2 rfl)
          · exact this
      · intro b
        have h1 := h.inv.one b
        have h2 := le b
        simp only
        omega
      · intro b hb
        refine h.tk b ?_
        have h2 := le b
        unfold tok at *
        simp only at hb
        omega
      · intro i b hi
        have hlt : i < s.g.base := by rw [h.bs]; exact (List.getElem?_eq_some_iff.1 hi).1
        rw [List.getElem?_take, if_pos hlt]
        exact h.mu i b hi
    · exact ⟨_, _, h⟩
theorem mask_sound {s s' : St} {a : Act} {cs : List Frame} {w : World} {HV : List (List Value)} {lv : List LV} (h : Good B s a cs w I μ HV lv) {live : Option Nat} (hm : maskSt live s = some s') :
    ∃ lv' μ' HV', Good B s' a cs w I μ' HV' lv' := by
  unfold maskSt at hm
  split at hm
  · simp only [Option.some.injEq] at hm; subst hm; exact ⟨lv, μ, HV, h⟩
  · rename_i m
    split at hm
    · rename_i hall
      obtain ⟨lv', h1⟩ := mask_sound0 h hall
      split at hm
      · simp only [Option.some.injEq] at hm; subst hm
        obtain ⟨μ', HV', h2⟩ := cut_sound h1
        exact ⟨lv', μ', HV', h2⟩
      · simp only [Option.some.injEq] at hm; subst hm; exact ⟨lv', μ, HV, h1⟩
    · cases hm
theorem drew_good {s : St} {a : Act} {cs : List Frame} {w : World} {HV : List (List Value)} {lv : List LV} (h : Good B s a cs w I μ HV lv) : Good B s a cs { w with drawn := w.drawn + 1 } I μ HV lv := by
  have he : Eff I w (fun _ => False) I { w with drawn := w.drawn + 1 } := ⟨.refl I, fun _ _ _ h => .inl h, fun _ _ _ => rfl, Nat.le_refl _, rfl, rfl, rfl⟩
  have hI : ImmOk I { w with drawn := w.drawn + 1 } := fun b o v hv => h.inv.h.imm b o v hv
  exact ⟨h.inv.eff he hI (fun _ h => h.elim), h.df, h.rm, h.dk, h.eff.trans he (fun _ h => h.elim), h.tk, h.mu, h.bs⟩
/-- Where code leads. -/
def CRel (P : Program) (B : Base) (x : AX) (s' : St) (m : Machine) (b : Frame) (k : List Item) : Prop :=
  match x with
  | .normal => ∃ a' cs' w' I' μ' HV' lv', Good B s' a' cs' w' I' μ' HV' lv' ∧ Steps P m (lone (b.at a' k) cs' w')
  | .exit id => ∃ a' cs' w' I' μ' HV' lv', Good B s' a' cs' w' I' μ' HV' lv' ∧ ∀ k', exitTo id k = some k' → Steps P m (lone (b.at a' k') cs' w')
  | .ret => ∃ a' cs' w' I' μ' HV' lv' todo, Good B s' a' cs' w' I' μ' HV' lv' ∧ Steps P m (lone { b.at a' todo with mode := .returning } cs' w')
  | .panic v => Panics P B v s' m b k
theorem CRel.of_steps {x : AX} {s' : St} {m m1 : Machine} {b : Frame} {k : List Item} (hs : Steps P m m1) (h : CRel P B x s' m1 b k) : CRel P B x s' m b k := by
  cases x with
  | normal => obtain ⟨a', cs', w', I', μ', HV', lv', h1, h2⟩ := h; exact ⟨a', cs', w', I', μ', HV', lv', h1, hs.trans h2⟩
  | exit id => obtain ⟨a', cs', w', I', μ', HV', lv', h1, h2⟩ := h; exact ⟨a', cs', w', I', μ', HV', lv', h1, fun k' hk => hs.trans (h2 k' hk)⟩
  | ret => obtain ⟨a', cs', w', I', μ', HV', lv', todo, h1, h2⟩ := h; exact ⟨a', cs', w', I', μ', HV', lv', todo, h1, hs.trans h2⟩
  | panic v => obtain ⟨a', cs', w', I', μ', HV', lv', ch, h1, h2, h3⟩ := h; exact ⟨a', cs', w', I', μ', HV', lv', ch, h1, h2, .of_steps hs h3⟩
/-- An item that no exit looks at is passed by. -/
theorem CRel.pass {x : AX} {s' : St} {m : Machine} {b : Frame} {it : Item} {k : List Item} (hi : ∀ id k', exitTo id k = some k' → exitTo id (it :: k) = some k') (hx : x ≠ .normal) (h : CRel P B x s' m b (it :: k)) : CRel P B x s' m b k := by
  cases x with
  | normal => exact absurd rfl hx
  | exit id => obtain ⟨a', cs', w', I', μ', HV', lv', h1, h2⟩ := h; exact ⟨a', cs', w', I', μ', HV', lv', h1, fun k' hk => h2 k' (hi id k' hk)⟩
  | ret => exact h
  | panic v => obtain ⟨a', cs', w', I', μ', HV', lv', ch, h1, h2, h3⟩ := h; exact ⟨a', cs', w', I', μ', HV', lv', ch, h1, h2, h3⟩
theorem crel_ops {x : AX} {s' : St} {m : Machine} {b : Frame} {ops : Array Oper} {k : List Item} (h : (x = .normal ∧ Goes P B s' m b ops [] k) ∨ ∃ v, x = .panic v ∧ Panics P B v s' m b k) : CRel P B x s' m b k := by
  rcases h with ⟨rfl, a', cs', w', I', μ', HV', lv', h1, h2⟩ | ⟨v, rfl, h⟩
  · exact ⟨a', cs', w', I', μ', HV', lv', h1, h2.trans (.one step_region_end)⟩
  · exact h
theorem maskTmps_zero : ∀ (l : List AV) (i : Nat), maskTmps 0 i l = List.replicate l.length .any
  | [], i => rfl
  | v :: l, i => by simp [maskTmps, maskTmps_zero l, List.replicate_succ]
theorem maskLh_zero : ∀ (l : List (Option LCell)) (i : Nat), maskLh 0 i l = List.replicate l.length none
  | [], i => rfl
  | v :: l, i => by simp [maskLh, maskLh_zero l, List.replicate_succ]
theorem panics_mask {v : AV} {u s : St} {m : Machine} {b : Frame} {k : List Item} (h : Panics P B v u m b k) (hg : u.g = s.g) (hl : SameLen s u) : Panics P B v (maskAll s) m b k := by
  obtain ⟨a', cs', w', I', μ', HV', lv', ch, h1, h2, h3⟩ := h
  obtain ⟨lv2, h4⟩ := mask_sound0 h1 (m := 0) (by rw [maskTmps_zero]; simp [lpIn])
  have e : maskAll s = { u with tmps := maskTmps 0 0 u.tmps, lh := maskLh 0 0 u.lh } := by
    unfold maskAll
    rw [maskTmps_zero, maskTmps_zero, maskLh_zero, maskLh_zero, hl.1, hl.2, hg]
  rw [e]
  exact ⟨a', cs', w', I', μ', HV', lv2, ch, h4, h2, h3⟩
theorem code_sound (hcall : CallSound P B.I call) (hmix : P.follows .mixedOrders = true) {k : Nat} {f : FuncId} : ∀ (c : Code) (bid : Nat) {s : St} {x : AX} {s' : St}, acode P cfg call k f bid c s = some (x, s') →
    ∀ {a : Act} {cs : List Frame} {w : World} {I : Mem} {μ : List Nat} {HV : List (List Value)} {lv : List LV}, Good B s a cs w I μ HV lv → ∀ {b : Frame} {kk : List Item}, (B.dk = true → b.kind = .deferred) →
      CRel P B x s' (lone (b.at a (.code c :: kk)) cs w) b kk := by
  intro c
  induction c with
  | skip =>
    intro bid s x s' h a cs w I μ HV lv hg b kk hb
    simp only [acode, Option.some.injEq, Prod.mk.injEq] at h
    obtain ⟨rfl, rfl⟩ := h
    exact ⟨a, cs, w, I, μ, HV, lv, hg, .one step_skip⟩
  | region id ops draw =>
    intro bid s x s' h a cs w I μ HV lv hg b kk hb
    cases draw with
    | false =>
      simp only [acode] at h
      exact .of_steps (.one step_region) (crel_ops (ops_sound hcall _ h hg hb))
    | true =>
      simp only [acode] at h
      split at h
      · rename_i s1 hd
        simp only [Option.some.injEq, Prod.mk.injEq] at h
        obtain ⟨rfl, rfl⟩ := h
        have ho := order_sound hd (w.tape w.drawn (.order b.fn id))
        refine .of_steps (.one step_region_draw) (crel_ops (ops := ops) ?_)
        rw [show Region.schedule (P.follows .mixedOrders) ops (w.tape w.drawn (.order b.fn id)) = Region.linearise .any ops (w.tape w.drawn (.order b.fn id)) by simp [Region.schedule, hmix]]
        exact ops_sound hcall _ ho (drew_good hg) hb
      · split at h
        · rename_i v1 s1 hd
          simp only [Option.some.injEq, Prod.mk.injEq] at h
          obtain ⟨rfl, rfl⟩ := h
          obtain ⟨u', ho, hg', hl'⟩ := order_panic hd (w.tape w.drawn (.order b.fn id))
          refine .of_steps (.one step_region_draw) ?_
          rw [show Region.schedule (P.follows .mixedOrders) ops (w.tape w.drawn (.order b.fn id)) = Region.linearise .any ops (w.tape w.drawn (.order b.fn id)) by simp [Region.schedule, hmix]]
          rcases ops_sound hcall _ ho (drew_good hg) hb with ⟨h, _⟩ | ⟨v2, hv, hp⟩
          · cases h
          · injection hv with hv
            subst hv
            exact panics_mask hp hg' hl'
        · cases h
  | seq x y ihx ihy =>
    intro bid s r s' h a cs w I μ HV lv hg b kk hb
    simp only [acode] at h
    split at h
    · rename_i s1 h1
      obtain ⟨a1, cs1, w1, I1, μ1, HV1, lv1, g1, st1⟩ := ihx bid h1 hg (b := b) (kk := .code y :: kk) hb
      split at h
      · rename_i s2 hm
        obtain ⟨lv2, μ2, HV2, g2⟩ := mask_sound g1 hm
        exact .of_steps (.head step_seq st1) (ihy bid h g2 hb)
      · cases h
    · rename_i r1 hne
      subst_vars
      have := ihx bid h hg (b := b) (kk := .code y :: kk) hb
      refine .of_steps (.one step_seq) (this.pass (fun id k' hk => by simpa [exitTo] using hk) ?_)
      rintro rfl
      exact hne _ h
  | cond c x y ihx ihy =>
    intro bid s r s' h a cs w I μ HV lv hg b kk hb
    simp only [acode] at h
    have hev : a.eval c = cevals a.tmps.toList c := eval_cevals a c
    have hrep := aeval_rep hg.inv.tms c
    split at h
    · rename_i e
      rw [e] at hrep
      have : a.eval c = .bool true := by rw [hev]; exact toVal_trep hrep rfl
      exact .of_steps (.one (step_cond this)) (ihx bid h hg hb)
    · rename_i e
      rw [e] at hrep
      have : a.eval c = .bool false := by rw [hev]; exact toVal_trep hrep rfl
      exact .of_steps (.one (step_cond this)) (ihy bid h hg hb)
    · cases h
  | block id x ih =>
    intro bid s r s' h a cs w I μ HV lv hg b kk hb
    simp only [acode] at h
    have key : ∀ r1 s1, acode P cfg call k f id x s = some (r1, s1) → CRel P B r1 s1 (lone (b.at a (.code x :: .inBlock id :: kk)) cs w) b (.inBlock id :: kk) := fun r1 s1 h1 => ih id h1 hg hb
    split at h
    · rename_i id' s1 h1
      have := key _ _ h1
      obtain ⟨a1, cs1, w1, I1, μ1, HV1, lv1, g1, st1⟩ := this
      split at h
      · rename_i e
        subst e
        simp only [Option.some.injEq, Prod.mk.injEq] at h
        obtain ⟨rfl, rfl⟩ := h
        exact ⟨a1, cs1, w1, I1, μ1, HV1, lv1, g1, .head step_block (st1 kk (by simp [exitTo]))⟩
      · rename_i e
        simp only [Option.some.injEq, Prod.mk.injEq] at h
        obtain ⟨rfl, rfl⟩ := h
        refine ⟨a1, cs1, w1, I1, μ1, HV1, lv1, g1, fun k' hk => .head step_block (st1 k' ?_)⟩
        have : (id == id') = false := by simp; exact fun h => e h.symm
        simp [exitTo, this, hk]
    · rename_i hne
      have := key _ _ h
      refine .of_steps (.one step_block) ?_
      cases r with
      | normal =>
        obtain ⟨a1, cs1, w1, I1, μ1, HV1, lv1, g1, st1⟩ := this
        exact ⟨a1, cs1, w1, I1, μ1, HV1, lv1, g1, st1.trans (.one step_inBlock)⟩
      | exit id' => exact absurd h (hne id' s')
      | ret => exact this
      | panic v => exact this
  | loop x ih =>
    intro bid s r s' h a cs w I μ HV lv hg b kk hb
    simp only [acode] at h
    refine .of_steps (.one step_loop) ?_
    have key : ∀ (n : Nat) {s : St} {r : AX} {s' : St}, aloop (liveAt (cfg f).live bid) (acode P cfg call k f bid x) n s = some (r, s') → ∀ {a : Act} {cs : List Frame} {w : World} {I : Mem} {μ : List Nat} {HV : List (List Value)} {lv : List LV},
        Good B s a cs w I μ HV lv → CRel P B r s' (lone (b.at a (.code x :: .inLoop x :: kk)) cs w) b kk := by
      intro n
      induction n with
      | zero => intro s r s' h; simp [aloop] at h
      | succ n ihn =>
        intro s r s' h a cs w I μ HV lv hg
        simp only [aloop] at h
        split at h
        · cases h
        · rename_i s0 hm
          obtain ⟨lv0, μ0, HV0, hg0⟩ := mask_sound hg hm
          split at h
          · rename_i s1 h1
            obtain ⟨a1, cs1, w1, I1, μ1, HV1, lv1, g1, st1⟩ := ih bid h1 hg0 (b := b) (kk := .inLoop x :: kk) hb
            exact .of_steps (st1.trans (.one step_inLoop)) (ihn h g1)
          · rename_i hne
            have := ih bid h hg0 (b := b) (kk := .inLoop x :: kk) hb
            refine this.pass (fun id k' hk => by simpa [exitTo] using hk) ?_
            rintro rfl
            exact hne _ h
    exact key k h hg
  | exit id =>
    intro bid s x s' h a cs w I μ HV lv hg b kk hb
    simp only [acode, Option.some.injEq, Prod.mk.injEq] at h
    obtain ⟨rfl, rfl⟩ := h
    exact ⟨a, cs, w, I, μ, HV, lv, hg, fun k' hk => .one (step_exit hk)⟩
  | ret =>
    intro bid s x s' h a cs w I μ HV lv hg b kk hb
    simp only [acode, Option.some.injEq, Prod.mk.injEq] at h
    obtain ⟨rfl, rfl⟩ := h
    exact ⟨a, cs, w, I, μ, HV, lv, _, hg, .one step_ret⟩
  | rangeFunc => intro bid s x s' h; simp [acode] at h
  | scope x ih =>
    intro bid s r s' h a cs w I μ HV lv hg b kk hb
    simp only [acode] at h
    have := ih bid h hg (b := b) (kk := .inScope x :: kk) hb
    refine .of_steps (.one step_scope) ?_
    cases r with
    | normal =>
      obtain ⟨a1, cs1, w1, I1, μ1, HV1, lv1, g1, st1⟩ := this
      exact ⟨a1, cs1, w1, I1, μ1, HV1, lv1, g1, st1.trans (.one step_inScope)⟩
    | exit id => exact this.pass (fun id k' hk => by simpa [exitTo] using hk) (by simp)
    | ret => exact this.pass (fun id k' hk => by simpa [exitTo] using hk) (by simp)
    | panic v => exact this.pass (fun id k' hk => by simpa [exitTo] using hk) (by simp)
  | label l =>
    intro bid s x s' h a cs w I μ HV lv hg b kk hb
    simp only [acode, Option.some.injEq, Prod.mk.injEq] at h
    obtain ⟨rfl, rfl⟩ := h
    exact ⟨a, cs, w, I, μ, HV, lv, hg, .one step_label⟩
  | goto => intro bid s x s' h; simp [acode] at h
  | refuse => intro bid s x s' h; simp [acode] at h
end
end Go.Eng
end

section
/-
  THE ENGINE, part 15: deferred calls, results, whole calls: what the interpreter answers, the model answers.
-/
set_option linter.unusedVariables false
set_option linter.unusedSimpArgs false
namespace Go.Eng
section
variable {P : Program} {cfg : FuncId → FCfg} {call : FuncId → List AV → RM → Heap → Option CRes} {B : Base} {I J : Mem} {μ ν : List Nat}
theorem invoke_run {d : Deferred} {g : FuncId} {cap : Array Value} (hd : d.target = .fn (.func g) cap) {fn : Func} {body : Code} (hf : P.funcs[g]? = some fn) (hb : fn.body = some body) (hng : (fn.name == "runtime.NumGoroutine") = false) (w : World) :
    (invoke d.target d.args).run P w = .ok (.enter g (d.args ++ cap)) w := by
  have hng' : ¬ fn.name = "runtime.NumGoroutine" := by simpa using hng
  simp [hd, invoke, callFunc, hf, hb, hng']
theorem settle_rel {rm : RM} {u : FrameMode} (h : ModeRel I μ rm u) : ModeRel I μ (settleA rm) (settle u) := by
  cases rm with
  | none => exact h.elim
  | returning => have : u = .returning := h; subst this; rfl
  | panicking v r =>
    obtain ⟨x, older, rfl, h2, h3⟩ := h
    cases r with
    | false => exact ⟨x, older, rfl, h2, h3⟩
    | true =>
      have : older.dropWhile (!·.goexit) = [] := by
        induction older with
        | nil => rfl
        | cons e l ih =>
          have he := h2 e (by simp)
          simp only [List.dropWhile_cons, he, Bool.not_false, if_true]
          exact ih fun e' he' => h2 e' (by simp [he'])
      simp only [settle, this, ModeRel, settleA]
theorem raised_rel {rm : RM} {u : FrameMode} {v : AV} {chain : List PanicEntry} (h : ModeRel I μ rm u) (hc : ChainRel I μ chain v) : ModeRel I μ (.panicking v false) (raised u chain) := by
  obtain ⟨x, o, rfl, h2, h3⟩ := hc
  cases rm with
  | none => exact h.elim
  | returning => have : u = .returning := h; subst this; exact ⟨x, o, rfl, h2, h3⟩
  | panicking v' r =>
    obtain ⟨y, older, rfl, h5, h6⟩ := h
    refine ⟨x, o ++ ({ v := y, recovered := r, goexit := false } :: older), rfl, fun e he => ?_, h3⟩
    rcases List.mem_append.1 he with he | he
    · exact h2 e he
    · simp only [List.mem_cons] at he
      rcases he with rfl | he
      · rfl
      · exact h5 e he
theorem defers_sound {I0 : Mem} (hcall : CallSound P I0 call) {fn : Func} {tmps : Array Value} {R : Ending → World → Prop} {vs : List Value} {tm : List AV} {lh : List (Option LCell)} {lv : List LV} {A : Nat → Prop} {w0 : World} {μ0 : List Nat} :
    ∀ (ads : List ADef) {m m' : RM} {H H' : Heap}, adefers call ads m H = some (m', H') → ∀ {ds : List Deferred} {u : FrameMode} {w : World} {I : Mem} {μ : List Nat} {HV : List (List Value)},
      FInv I μ HV lv w vs tm lh H → DRel I μ ds ads → ModeRel I μ m u → Eff I0 w0 A I w → (∀ b, 0 < tok μ HV H lv lh vs tm b → A b ∨ w0.heap.size ≤ b) → LeN μ0 μ →
      (∀ {u' : FrameMode} {w' : World} {J : Mem} {ν : List Nat} {HV' : List (List Value)}, FInv J ν HV' lv w' vs tm lh H' → ModeRel J ν m' u' → Eff I0 w0 A J w' → (∀ b, 0 < tok ν HV' H' lv lh vs tm b → A b ∨ w0.heap.size ≤ b) → LeN μ0 ν → Leaves P fn tmps R [] u' w') →
      Leaves P fn tmps R ds u w := by
  intro ads
  induction ads with
  | nil =>
    intro m m' H H' h ds u w I μ HV h1 h2 h3 h4 h5 h6 hk
    simp only [adefers, Option.some.injEq, Prod.mk.injEq] at h
    obtain ⟨rfl, rfl⟩ := h
    cases ds with
    | nil => exact hk h1 h3 h4 h5 h6
    | cons d ds => exact h2.elim
  | cons ad ads ih =>
    intro m m' H H' h ds u w I μ HV h1 h2 h3 h4 h5 h6 hk
    cases ds with
    | nil => exact h2.elim
    | cons d ds =>
      obtain ⟨⟨cap, e1, e2, e3⟩, h2'⟩ := h2
      obtain ⟨sp, tz⟩ := RepL.argSpare (I := I) (w := w) (cargs := d.args.toList ++ cap.toList) e3
      have hone : ∀ b, argTok μ HV H (d.args.toList ++ cap.toList) ad.args b ≤ 1 := fun b => by
        have := h1.one b; have := tz b; unfold argTok; omega
      have hno : (movedTmps ([] : List Operand) ([] : List Bool)).Nodup := by simp [movedTmps]
      have hrest : ∀ {out : Out} {H1 : Heap} {J : Mem} {ν : List Nat} {HV' : List (List Value)} {e : Ending} {w' : World}, CPost I μ HV w H (d.args.toList ++ cap.toList) ad.args out H1 J ν HV' e w' →
          FInv J ν HV' lv w' vs tm lh H1 ∧ Eff I0 w0 A J w' ∧ (∀ b, 0 < tok ν HV' H1 lv lh vs tm b → A b ∨ w0.heap.size ≤ b) ∧ LeN μ0 ν ∧ DRel J ν ds ads := by
        intro out H1 J ν HV' e w' hp
        obtain ⟨f1, f2, f3, f4, f5⟩ := call_frame h1 hno (fun b => by rw [tz b]; exact Nat.zero_le _) hp
        refine ⟨f1, h4.trans f2 h5, fun b hb => ?_, h6.trans f3, h2'.mono f2.le f3⟩
        simp only [disT] at f5
        rcases f5 b (by omega) with q | q
        · exact h5 b q
        · exact .inr (Nat.le_trans h4.size q)
      have hu : u ≠ .run := by
        cases m with
        | none => exact h3.elim
        | returning => have : u = .returning := h3; rw [this]; simp
        | panicking v r => obtain ⟨x, o, rfl, _⟩ := h3; simp
      simp only [adefers] at h
      have hca : d.args ++ cap = (d.args.toList ++ cap.toList).toArray := by apply Array.ext'; simp
      split at h
      · rename_i v1 rm1 H1 hc
        obtain ⟨⟨fn', body, q1, q2, q3⟩, q4⟩ := hcall _ _ _ _ _ hc I μ HV w _ h4.le h1.h e2 sp hone
        have hcd : CallsD P ad.f (d.args ++ cap) u w fun e u' w' => ∃ J ν HV', CPost I μ HV w H (d.args.toList ++ cap.toList) ad.args (.ret v1) H1 J ν HV' e w' ∧ ModeRel J ν rm1 u' := by
          rw [hca]
          cases m with
          | none => exact h3.elim
          | returning => exact q4 u h3
          | panicking v r => exact q4 u h3
        refine ⟨hu, _, cap, _, _, e1, invoke_run e1 q1 q2 q3 w, hcd.mono ?_⟩
        rintro e u' w' ⟨J, ν, HV', hp, hm⟩
        obtain ⟨v', rfl, _⟩ := hp.outr
        obtain ⟨r1, r2, r3, r4, r5⟩ := hrest hp
        exact ih h r1 r5 (settle_rel hm) r2 r3 r4 hk
      · rename_i v1 rm1 H1 hc
        obtain ⟨⟨fn', body, q1, q2, q3⟩, q4⟩ := hcall _ _ _ _ _ hc I μ HV w _ h4.le h1.h e2 sp hone
        have hcd : CallsD P ad.f (d.args ++ cap) u w fun e u' w' => ∃ J ν HV', CPost I μ HV w H (d.args.toList ++ cap.toList) ad.args (.panic v1) H1 J ν HV' e w' ∧ ModeRel J ν rm1 u' := by
          rw [hca]
          cases m with
          | none => exact h3.elim
          | returning => exact q4 u h3
          | panicking v r => exact q4 u h3
        refine ⟨hu, _, cap, _, _, e1, invoke_run e1 q1 q2 q3 w, hcd.mono ?_⟩
        rintro e u' w' ⟨J, ν, HV', hp, hm⟩
        obtain ⟨chain, rfl, hch⟩ := hp.outr
        obtain ⟨r1, r2, r3, r4, r5⟩ := hrest hp
        exact ih h r1 r5 (raised_rel hm hch) r2 r3 r4 hk
      · cases h
/-- One result, as the model has it. -/
def resF (tmps : Array Value) (rv : ResultVar) : Sem Value :=
  match rv with
  | .tmp t => pure (tmps.getD t undef)
  | .cell a t => do loadVar t (← asAddr (tmps.getD a undef))
/-- One result. -/
theorem result_sound {s : St} {tmps : Array Value} {w : World} {HV : List (List Value)} {lv : List LV} {H : Heap} (h : FInv I μ HV lv w tmps.toList s.tmps s.lh H) {rv : ResultVar} {a : AV} (hr : aresult P s H rv = some a) :
    ∃ v, (resF tmps rv).run P w = .ok v w ∧ Rep I μ v a ∧ SpareOk I w v a ∧ ∀ b, tc b v a ≤ tcs b tmps.toList s.tmps := by
  have hget : ∀ t, tmps.getD t undef = cevals tmps.toList (.tmp t) := fun t => by simp [cevals, List.getD_eq_getElem?_getD, Array.getD_eq_getD_getElem?]
  cases rv with
  | tmp t =>
    simp only [aresult] at hr
    split at hr
    · cases hr
    · rename_i hlp
      simp only [Option.some.injEq] at hr; subst hr
      refine ⟨_, rfl, ?_, ?_, fun b => ?_⟩
      · rw [hget]; exact (aeval_rep h.tms (.tmp t)).rep (by simpa [aeval] using hlp)
      · rw [hget]; exact aeval_spare h.tms h.sp (.tmp t)
      · rw [hget]
        simp only [cevals, List.getD_eq_getElem?_getD]
        cases ht : s.tmps[t]? with
        | none =>
          have : tc b (tmps.toList[t]?.getD undef) .any = 0 := by unfold tc; split <;> simp_all
          simp only [Option.getD_none]; rw [this]; exact Nat.zero_le _
        | some a =>
          have htl : t < tmps.toList.length := by rw [h.tms.1]; exact (List.getElem?_eq_some_iff.1 ht).1
          have := zsum_get (tc b) (List.getElem?_eq_getElem htl) ht
          simpa [List.getElem?_eq_getElem htl] using this
  | cell x t =>
    simp only [aresult] at hr
    have hx := aeval_rep h.tms (.tmp x)
    simp only [aeval] at hx
    have key : ∀ {b o : Nat} {ws : List Value} {cs : List AV} {off : Nat}, cevals tmps.toList (.tmp x) = .pointer (some ⟨b, o + off, none⟩) → CellsAt w b o ws → OneCells ws → RepL I μ ws cs → readCells P t cs off = some a →
        ∃ v, (resF tmps (.cell x t)).run P w = .ok v w ∧ Rep I μ v a ∧ SpareOk I w v a ∧ ∀ b, tc b v a ≤ tcs b tmps.toList s.tmps := by
      intro b o ws cs off e1 e2 e3 e4 e5
      obtain ⟨v, r1, r2, r3⟩ := readCells_sound (P := P) e2 e3 e4 e5
      refine ⟨v, ?_, r2, r3.spare w v, fun b => by rw [r3.tc]; exact Nat.zero_le _⟩
      unfold resF
      simp only []
      rw [hget, e1]
      simp [asAddr, r1]
    split at hr
    · rename_i cs e
      rw [e] at hx
      generalize hu : cevals tmps.toList (.tmp x) = u at hx
      cases hx with
      | ref b o ws cs hr' h2 _ => exact key (off := 0) hu (hr'.cells h.h.imm) (hr'.one h.h.imm) h2 hr
    · rename_i id off e
      rw [e] at hx
      split at hr
      · rename_i cs hc
        obtain ⟨b, ws, q1, q2, ⟨ee, k1⟩, k2, k3, k4, k5⟩ := h.h.get hc
        generalize hu : cevals tmps.toList (.tmp x) = u at hx
        cases hx with
        | ptr _ _ b2 hb2 _ =>
          rw [q1] at hb2; cases hb2
          exact key (o := 0) (off := off) (by rw [hu]; simp) (CellsAt.block k1) k3 k2 hr
      · cases hr
    · rename_i l g off e
      rw [e] at hx
      split at hr
      · rename_i g' cs hc
        split at hr
        · rename_i hgg
          subst hgg
          obtain ⟨g1, cs1, b, ws, q1, q2, q3, b', q4, q5⟩ := hx
          rw [hc] at q1; cases q1
          obtain rfl := q5 rfl
          obtain ⟨⟨ee, k1⟩, k2, k3, k4, k5⟩ := h.lo l _ _ q2 hc
          exact key (o := 0) (off := off) (by rw [q4]; simp) (CellsAt.block k1) k3 k2 hr
        · cases hr
      · cases hr
    · cases hr
theorem results_list {s : St} {tmps : Array Value} {w : World} {HV : List (List Value)} {lv : List LV} {H : Heap} (h : FInv I μ HV lv w tmps.toList s.tmps s.lh H) : ∀ {rs : List ResultVar} {avs : List AV}, aresults P s H rs = some avs →
    ∃ vs, (rs.mapM (resF tmps)).run P w = .ok vs w ∧ RepL I μ vs avs ∧
      (∀ (i : Nat) v a, vs[i]? = some v → avs[i]? = some a → SpareOk I w v a ∧ ∀ b, tc b v a ≤ tcs b tmps.toList s.tmps)
  | [], avs, hr => by
    simp only [aresults, Option.some.injEq] at hr; subst hr
    exact ⟨[], by simp, .nil, fun i v a h => by simp at h⟩
  | r :: rs, avs, hr => by
    simp only [aresults] at hr
    split at hr
    · rename_i a l ha hl
      simp only [Option.some.injEq] at hr; subst hr
      obtain ⟨v, e1, e2, e3, e4⟩ := result_sound h ha
      obtain ⟨vs, f1, f2, f3⟩ := results_list h hl
      refine ⟨v :: vs, ?_, .cons e2 f2, fun i u c hu hc => ?_⟩
      · rw [List.mapM_cons]
        simp only [Sem.run_bind]
        rw [e1]
        simp only [Result.andThen_ok, Sem.run_bind]
        rw [f1]
        rfl
      · cases i with
        | zero => simp at hu hc; subst hu hc; exact ⟨e3, e4⟩
        | succ i => exact f3 i u c (by simpa using hu) (by simpa using hc)
    · cases hr
theorem results_sound {fn : Func} {s : St} {tmps : Array Value} {w : World} {HV : List (List Value)} {lv : List LV} {H : Heap} (h : FInv I μ HV lv w tmps.toList s.tmps s.lh H) {avs : List AV} (hr : aresults P s H fn.results.toList = some avs) :
    ∃ v, (results fn tmps).run P w = .ok v w ∧ Rep I μ v (resultOf avs) ∧ SpareOk I w v (resultOf avs) ∧ ∀ b, tc b v (resultOf avs) ≤ tcs b tmps.toList s.tmps := by
  obtain ⟨vs, e1, e2, e3⟩ := results_list h hr
  have hres : results fn tmps = (do let vs ← fn.results.mapM (resF tmps); pure (if h : vs.size = 1 then vs[0] else .tuple vs)) := rfl
  have hrun : (results fn tmps).run P w = .ok (if h : vs.toArray.size = 1 then vs.toArray[0] else .tuple vs.toArray) w := by
    rw [hres, Sem.run_bind, Array.mapM_eq_mapM_toList, Sem.run_map, e1]
    rfl
  have hlen := e2.length
  rcases vs with _ | ⟨v, _ | ⟨v', vs⟩⟩ <;> rcases avs with _ | ⟨a, _ | ⟨a', as⟩⟩ <;> simp at hlen
  · exact ⟨.tuple #[], by rw [hrun]; rfl, .tuple _ _ .nil .nil, fun _ _ _ _ _ _ _ h => (by cases h), fun b => Nat.zero_le _⟩
  · obtain ⟨k1, k2⟩ := e3 0 v a rfl rfl
    exact ⟨v, by rw [hrun]; rfl, e2, k1, k2⟩
  · exact ⟨.tuple (v :: v' :: vs).toArray, by rw [hrun]; simp, .tuple _ _ (by simpa using e2.dis) .nil, fun _ _ _ _ _ _ _ h => (by cases h), fun b => Nat.zero_le _⟩
/-- A frame at its beginning. -/
theorem start_good {I : Mem} {μ : List Nat} {HV : List (List Value)} {w : World} {H : Heap} {cargs : List Value} {args : List AV} (hh : HInv I μ HV w H) (hr : RepL I μ cargs args) (hs : AllSpare I w cargs args) (h1 : ∀ b, argTok μ HV H cargs args b ≤ 1)
    {rm : RM} {cs : List Frame} (hrm : RmOk I μ cs cs rm) (n : Nat) :
    Good ⟨I, μ, w, fun b => 0 < argTok μ HV H cargs args b, cs, !rm.isNone⟩ ⟨args ++ List.replicate (n - args.length) (.val undef), List.replicate n none, ⟨H, [], rm, H.length⟩⟩
      { tmps := cargs.toArray ++ Array.replicate (n - cargs.toArray.size) undef, defers := [] } cs w I μ HV (List.replicate n none) := by
  have hl := hr.length
  have e1 : (cargs.toArray ++ Array.replicate (n - cargs.toArray.size) undef).toList = cargs ++ List.replicate (n - args.length) undef := by simp [hl]
  have hrep : RepL I μ (cargs ++ List.replicate (n - args.length) undef) (args ++ List.replicate (n - args.length) (.val undef)) := hr.append (by
    have := RepL.vals (I := I) (μ := μ) (List.replicate (n - args.length) undef)
    simpa using this)
  have hz : ∀ b k, tcs b (List.replicate k undef) (List.replicate k (.val undef)) = 0 := by
    intro b k; induction k with
    | zero => rfl
    | succ k ih =>
      simp only [tcs] at ih
      simp only [List.replicate_succ, tcs, zsum]
      rw [ih]; rfl
  have hz2 : ∀ b (k : Nat), zsum (lc b) (List.replicate k (none : LV)) (List.replicate k (none : Option LCell)) = 0 := by
    intro b k; induction k with
    | zero => rfl
    | succ k ih => simp only [List.replicate_succ, zsum]; rw [ih]; rfl
  have htok : ∀ b, tok μ HV H (List.replicate n none) (List.replicate n none) (cargs ++ List.replicate (n - args.length) undef) (args ++ List.replicate (n - args.length) (.val undef)) b = argTok μ HV H cargs args b := fun b => by
    have e2 := zsum_append (tc b) (l := cargs) (l' := List.replicate (n - args.length) undef) (m := args) (m' := List.replicate (n - args.length) (.val undef)) hl
    have := hz b (n - args.length)
    have := hz2 b n
    unfold tok argTok
    simp only [tcs] at *
    omega
  have hsp : AllSpare I w (cargs ++ List.replicate (n - args.length) undef) (args ++ List.replicate (n - args.length) (.val undef)) := AllSpare.append hl hs fun i v a hv ha => by
    simp only [List.getElem?_replicate] at ha
    split at ha
    · cases ha; intro _ _ _ _ _ _ _ h; cases h
    · cases ha
  refine ⟨⟨hh, ?_, ?_, by simp, ?_, ?_⟩, trivial, hrm, by simp, .refl _ _ _, ?_, .refl μ, hh.l1.symm⟩
  · simp only [e1]; exact ⟨hrep.length, fun i v a hv ha => .of (hrep.get hv ha)⟩
  · simp only [e1]; exact hsp
  · intro t d c hd hc
    simp only [List.getElem?_replicate] at hd hc
    split at hd
    · rename_i ht; rw [if_pos ht] at hc; cases hd; cases hc; trivial
    · cases hd
  · intro b
    simp only [e1]
    have := htok b; have := h1 b; unfold tok at *; omega
  · intro b hb
    simp only [e1] at hb
    rw [htok] at hb
    exact .inl hb
end
end Go.Eng
end

section
/-
  THE ENGINE, part 15b: a heap is cut back to what it was, where nothing that is left points beyond.
-/
set_option linter.unusedVariables false
set_option linter.unusedSimpArgs false
namespace Go.Eng
theorem CPost.cut {I J : Mem} {μ ν : List Nat} {HV HV' : List (List Value)} {w w' : World} {H H' : Heap} {cargs : List Value} {args : List AV} {out : Out} {e : Ending} {n : Nat}
    (h : CPost I μ HV w H cargs args out H' J ν HV' e w') (hn : μ.length = n) (hv : out.low n = true) (hl : lowss n (H'.take n) = true) :
    CPost I μ HV w H cargs args out (H'.take n) J (ν.take n) (HV'.take n) e w' := by
  have le : ∀ b, (ν.take n).count b + tcss b (HV'.take n) (H'.take n) + outTok b out e ≤ ν.count b + tcss b HV' H' + outTok b out e := by
    intro b
    have h1 := count_take b ν n
    have h2 : tcss b (HV'.take n) (H'.take n) ≤ tcss b HV' H' := zsum_take _ n _ _
    omega
  refine ⟨h.h.take hl, h.eff, ?_, ?_, fun b => Nat.le_trans (le b) (h.one b), fun b hb => h.tok b (Nat.lt_of_lt_of_le hb (le b))⟩
  · intro i b hi
    rw [List.getElem?_take, if_pos (by rw [← hn]; exact (List.getElem?_eq_some_iff.1 hi).1)]
    exact h.mu i b hi
  · cases out with
    | ret v =>
      obtain ⟨v', e1, e2, e3⟩ := h.outr
      exact ⟨v', e1, e2.take_mu (by simp only [lows, Bool.and_true]; exact hv), e3⟩
    | panic v =>
      obtain ⟨chain, e1, u, older, e2, e3, e4⟩ := h.outr
      exact ⟨chain, e1, u, older, e2, e3, e4.take_mu (by simp only [lows, Bool.and_true]; exact hv)⟩
/-- With the cut. -/
theorem CPost.cutRes {I J : Mem} {μ ν : List Nat} {HV HV' : List (List Value)} {w w' : World} {H : Heap} {cargs : List Value} {args : List AV} {r : CRes} {e : Ending} {n : Nat}
    (h : CPost I μ HV w H cargs args r.out r.H J ν HV' e w') (hn : μ.length = n) : ∃ ν' HV'', CPost I μ HV w H cargs args (cutRes n r).out (cutRes n r).H J ν' HV'' e w' := by
  unfold Eng.cutRes
  split
  · exact ⟨_, _, h⟩
  · split
    · rename_i hl
      simp only [Bool.and_eq_true] at hl
      exact ⟨_, _, h.cut hn hl.1 hl.2⟩
    · exact ⟨_, _, h⟩
end Go.Eng
end

section
/-
  THE ENGINE, part 16: what the interpreter answers to a call, the model answers.
-/
set_option linter.unusedVariables false
set_option linter.unusedSimpArgs false
namespace Go.Eng
/-- What is asked of contracts that stand in place of code. -/
def ExtSound (P : Program) (I0 : Mem) (ext : Ext) : Prop :=
  ∀ f e, ext f = some e → ∀ args H out H', e args H = some (out, H') → ∀ I μ HV w cargs, LeM I0 I → HInv I μ HV w H → RepL I μ cargs args → AllSpare I w cargs args → (∀ b, argTok μ HV H cargs args b ≤ 1) →
    Calls P f cargs.toArray w fun e w' => ∃ J ν HV', CPost I μ HV w H cargs args out H' J ν HV' e w'
section
variable {P : Program} {cfg : FuncId → FCfg} {call : FuncId → List AV → RM → Heap → Option CRes}
theorem cpost_ret {I : Mem} {μ : List Nat} {HV : List (List Value)} {w : World} {H : Heap} {cargs : List Value} {args : List AV} {J : Mem} {ν : List Nat} {HV' : List (List Value)} {lv : List LV} {w' : World} {vs : List Value} {tm : List AV} {lh : List (Option LCell)} {H' : Heap}
    (h : FInv J ν HV' lv w' vs tm lh H') (he : Eff I w (fun b => 0 < argTok μ HV H cargs args b) J w') (ht : ∀ b, 0 < tok ν HV' H' lv lh vs tm b → 0 < argTok μ HV H cargs args b ∨ w.heap.size ≤ b) (hm : LeN μ ν)
    {v : Value} {a : AV} (hr : Rep J ν v a) (hs : SpareOk J w' v a) (hc : ∀ b, tc b v a ≤ tcs b vs tm) : CPost I μ HV w H cargs args (.ret a) H' J ν HV' (.returned v) w' :=
  ⟨h.h, he, hm, ⟨v, rfl, hr, hs⟩, fun b => by have := h.one b; have := hc b; simp only [outTok]; omega, fun b hb => by
    simp only [outTok] at hb
    have := hc b
    exact ht b (by unfold tok; omega)⟩
theorem cpost_panic {I : Mem} {μ : List Nat} {HV : List (List Value)} {w : World} {H : Heap} {cargs : List Value} {args : List AV} {J : Mem} {ν : List Nat} {HV' : List (List Value)} {lv : List LV} {w' : World} {vs : List Value} {tm : List AV} {lh : List (Option LCell)} {H' : Heap}
    (h : FInv J ν HV' lv w' vs tm lh H') (he : Eff I w (fun b => 0 < argTok μ HV H cargs args b) J w') (ht : ∀ b, 0 < tok ν HV' H' lv lh vs tm b → 0 < argTok μ HV H cargs args b ∨ w.heap.size ≤ b) (hm : LeN μ ν)
    {chain : List PanicEntry} {v : AV} (hr : ChainRel J ν chain v) : CPost I μ HV w H cargs args (.panic v) H' J ν HV' (.panicked chain) w' :=
  ⟨h.h, he, hm, ⟨chain, rfl, hr⟩, fun b => by have := h.one b; simp only [outTok]; omega, fun b hb => by
    simp only [outTok] at hb
    exact ht b (by unfold tok; omega)⟩
theorem rmok_none {I : Mem} {μ : List Nat} {cs0 cs : List Frame} {rm : RM} (h : RmOk I μ cs0 cs rm) (hr : rm.isNone = true) : rm = .none ∧ cs = cs0 := by
  cases rm with
  | none => exact ⟨rfl, h⟩
  | _ => simp [RM.isNone] at hr
theorem body_sound {I : Mem} (hcall : CallSound P I call) (hmix : P.follows .mixedOrders = true) {k : Nat} {f : FuncId} {fn : Func} {c : Code} (hf : P.funcs[f]? = some fn) (hb : fn.body = some c) {args : List AV} {rm : RM} {H : Heap} {res : CRes}
    (h : abody P cfg call k f fn c args rm H = some res) {μ : List Nat} {HV : List (List Value)} {w : World} {cargs : List Value} (hh : HInv I μ HV w H) (hr : RepL I μ cargs args) (hs : AllSpare I w cargs args)
    (h1 : ∀ b, argTok μ HV H cargs args b ≤ 1) :
    (rm = .none → Calls P f cargs.toArray w fun e w' => ∃ J ν HV', CPost I μ HV w H cargs args res.out res.H J ν HV' e w') ∧
    (∀ u, ModeRel I μ rm u → CallsD P f cargs.toArray u w fun e u' w' => ∃ J ν HV', CPost I μ HV w H cargs args res.out res.H J ν HV' e w' ∧ ModeRel J ν res.rm u') := by
  -- the body, and what follows it
  have hbody : ∀ (cs : List Frame) (kd : CallKind), RmOk I μ cs cs rm → (rm.isNone = false → kd = .deferred) → ∃ (x : AX) (s : St) (m : RM) (a' : Act) (cs' : List Frame) (w' : World) (I' : Mem) (μ' : List Nat) (HV' : List (List Value)) (lv' : List LV) (u : FrameMode) (todo : List Item),
      afinish P call fn s m = some res ∧ Good ⟨I, μ, w, fun b => 0 < argTok μ HV H cargs args b, cs, !rm.isNone⟩ s a' cs' w' I' μ' HV' lv' ∧ ModeRel I' μ' m u ∧
      Steps P (lone (Frame.enter P f cargs.toArray kd) cs w) (lone { ({ (default : Frame) with fn := f, kind := kd } : Frame).at a' todo with mode := u } cs' w') := by
    intro cs kd hrm hkd
    have hg := start_good hh hr hs h1 hrm fn.ntmps
    have henter : Frame.enter P f cargs.toArray kd = ({ (default : Frame) with fn := f, kind := kd } : Frame).at { tmps := cargs.toArray ++ Array.replicate (fn.ntmps - cargs.toArray.size) undef, defers := [] } [.code c] := by
      simp [Frame.enter, Frame.at, hf, hb]
    have hkd' : (!rm.isNone) = true → ({ (default : Frame) with fn := f, kind := kd } : Frame).kind = .deferred := fun h => hkd (by simpa using h)
    unfold abody at h
    split at h
    · rename_i s hc
      obtain ⟨a', cs', w', I', μ', HV', lv', g, st⟩ := code_sound hcall hmix c 0 hc hg (b := { (default : Frame) with fn := f, kind := kd }) (kk := []) hkd'
      exact ⟨.normal, s, .returning, a', cs', w', I', μ', HV', lv', .returning, [], h, g, rfl, by rw [henter]; exact st.trans (.one step_end)⟩
    · rename_i s hc
      obtain ⟨a', cs', w', I', μ', HV', lv', todo, g, st⟩ := code_sound hcall hmix c 0 hc hg (b := { (default : Frame) with fn := f, kind := kd }) (kk := []) hkd'
      exact ⟨.ret, s, .returning, a', cs', w', I', μ', HV', lv', .returning, todo, h, g, rfl, by rw [henter]; exact st⟩
    · rename_i v s hc
      obtain ⟨a', cs', w', I', μ', HV', lv', chain, g, hch, todo, st⟩ := code_sound hcall hmix c 0 hc hg (b := { (default : Frame) with fn := f, kind := kd }) (kk := []) hkd'
      obtain ⟨y, older, rfl, q1, q2⟩ := hch
      exact ⟨.panic v, s, .panicking v false, a', cs', w', I', μ', HV', lv', .panicking _, todo, h, g, ⟨y, older, rfl, q1, q2⟩, by rw [henter]; exact st⟩
    · cases h
  refine ⟨fun hrm0 cs => ?_, fun u hu c₀ cs hc₀ => ?_⟩
  · subst hrm0
    obtain ⟨x, s, m, a', cs', w', I', μ', HV', lv', u, todo, hfin, hg, hm, hst⟩ := hbody cs .normal rfl (fun h => by simp [RM.isNone] at h)
    have hgd := hg.dk
    simp only [RM.isNone, Bool.not_true, Bool.not_false] at hgd
    obtain ⟨hsr, hcs⟩ := rmok_none hg.rm (by simpa [RM.isNone] using hgd)
    simp only at hcs
    subst hcs
    unfold afinish at hfin
    rw [hsr] at hfin
    simp only at hfin
    have hL : ∀ {m' : RM} {H' : Heap}, adefers call s.g.defers m s.g.H = some (m', H') →
        (∀ {u' : FrameMode} {w'' : World} {J : Mem} {ν : List Nat} {HV'' : List (List Value)}, FInv J ν HV'' lv' w'' a'.tmps.toList s.tmps s.lh H' → ModeRel J ν m' u' → Eff I w (fun b => 0 < argTok μ HV H cargs args b) J w'' →
          (∀ b, 0 < tok ν HV'' H' lv' s.lh a'.tmps.toList s.tmps b → 0 < argTok μ HV H cargs args b ∨ w.heap.size ≤ b) → LeN μ ν → Leaves P fn a'.tmps (fun e w' => ∃ J ν HV', CPost I μ HV w H cargs args res.out res.H J ν HV' e w') [] u' w'') →
        ∃ e w'' fr, (∃ J ν HV', CPost I μ HV w H cargs args res.out res.H J ν HV' e w'') ∧ Comes P (lone (Frame.enter P f cargs.toArray .normal) cs' w) (lone fr cs' w'') e ∧ fr.fn = f ∧ fr.leaving P w'' e := by
      intro m' H' had hk
      have hl := defers_sound hcall s.g.defers had hg.inv hg.df hm hg.eff hg.tk hg.mu (fn := fn) (tmps := a'.tmps) (R := fun e w' => ∃ J ν HV', CPost I μ HV w H cargs args res.out res.H J ν HV' e w') hk
      obtain ⟨e', w'', fr', hR, hs', hfn', hl'⟩ := leaves_steps a'.defers u w' { ({ (default : Frame) with fn := f, kind := .normal } : Frame).at a' todo with mode := u } cs' rfl rfl rfl hf rfl hl
      exact ⟨e', w'', fr', hR, Comes.of_steps hst hs', hfn', hl'⟩
    split at hfin
    · rename_i H' had
      split at hfin
      · rename_i l hres
        simp only [Option.some.injEq] at hfin; subst hfin
        refine hL had fun {u' w'' J ν HV''} f1 f2 f3 f4 f5 => ?_
        have : u' = .returning := f2
        subst this
        obtain ⟨v, r1, r2, r3, r4⟩ := results_sound f1 hres
        exact ⟨v, r1, J, ν, HV'', cpost_ret f1 f3 f4 f5 r2 r3 r4⟩
      · cases hfin
    · rename_i v H' had
      simp only [Option.some.injEq] at hfin; subst hfin
      refine hL had fun {u' w'' J ν HV''} f1 f2 f3 f4 f5 => ?_
      obtain ⟨y, older, rfl, q1, q2⟩ := f2
      exact ⟨J, ν, HV'', cpost_panic f1 f3 f4 f5 ⟨y, older, rfl, q1, q2⟩⟩
    · cases hfin
  · have hnn : rm.isNone = false := by cases rm <;> first | exact hu.elim | rfl
    have hcc : ({ c₀ with mode := u } : Frame) = c₀ := by subst hc₀; rfl
    have hrmok : RmOk I μ (c₀ :: cs) (c₀ :: cs) rm := by
      cases rm with
      | none => exact hu.elim
      | returning => exact ⟨c₀, cs, u, rfl, by rw [hcc], hu⟩
      | panicking v r => exact ⟨c₀, cs, u, rfl, by rw [hcc], hu⟩
    obtain ⟨x, s, m, a', cs', w', I', μ', HV', lv', u1, todo, hfin, hg, hm, hst⟩ := hbody (c₀ :: cs) .deferred hrmok (fun _ => rfl)
    have hgd := hg.dk
    simp only [hnn, Bool.not_false, Bool.not_true] at hgd
    have hgr := hg.rm
    simp only at hgr
    have hsnn : ∃ u', cs' = { c₀ with mode := u' } :: cs ∧ ModeRel I' μ' s.g.rm u' := by
      cases hs : s.g.rm with
      | none => rw [hs] at hgd; simp [RM.isNone] at hgd
      | returning => rw [hs] at hgr; obtain ⟨c1, r1, u', e1, e2, e3⟩ := hgr; cases e1; exact ⟨u', e2, e3⟩
      | panicking v r => rw [hs] at hgr; obtain ⟨c1, r1, u', e1, e2, e3⟩ := hgr; cases e1; exact ⟨u', e2, e3⟩
    obtain ⟨u', hcs', hmr⟩ := hsnn
    have hfin2 : s.g.defers.isEmpty = true ∧ ((m = .returning ∧ ∃ l, aresults P s s.g.H fn.results.toList = some l ∧ res = ⟨.ret (resultOf l), s.g.rm, s.g.H⟩) ∨ (∃ v, m = .panicking v false ∧ res = ⟨.panic v, s.g.rm, s.g.H⟩)) := by
      unfold afinish at hfin
      split at hfin
      · rename_i hs; rw [hs] at hgd; simp [RM.isNone] at hgd
      · split at hfin
        · rename_i hem
          refine ⟨hem, ?_⟩
          split at hfin
          · split at hfin
            · rename_i l hres
              simp only [Option.some.injEq] at hfin
              exact .inl ⟨rfl, l, hres, hfin.symm⟩
            · cases hfin
          · rename_i v
            simp only [Option.some.injEq] at hfin
            exact .inr ⟨v, rfl, hfin.symm⟩
          · cases hfin
        · cases hfin
    obtain ⟨hem, hcase⟩ := hfin2
    have hdf : a'.defers = [] := by
      have h2 := hg.df
      have : s.g.defers = [] := by simpa using hem
      rw [this] at h2
      cases hd : a'.defers with
      | nil => rfl
      | cons d ds => rw [hd] at h2; exact h2.elim
    rw [hcs'] at hst
    rcases hcase with ⟨rfl, l, hres, rfl⟩ | ⟨v, rfl, rfl⟩
    · have : u1 = .returning := hm
      subst this
      obtain ⟨v, r1, r2, r3, r4⟩ := results_sound hg.inv hres
      exact ⟨.returned v, u', w', _, ⟨I', μ', HV', cpost_ret hg.inv hg.eff hg.tk hg.mu r2 r3 r4, hmr⟩, hst, rfl, rfl, hdf, fn, hf, r1⟩
    · obtain ⟨y, older, rfl, q1, q2⟩ := hm
      exact ⟨.panicked _, u', w', _, ⟨I', μ', HV', cpost_panic hg.inv hg.eff hg.tk hg.mu ⟨y, older, rfl, q1, q2⟩, hmr⟩, hst, rfl, rfl, hdf, fn, hf⟩
/-! ### results told by their types -/
theorem normS_tc {b : Nat} {t : TypeId} {v : Value} {a : AV} : tc b v (normS P t a) ≤ tc b v a := by
  cases a with
  | slice sz rows own =>
    have hno : ∀ n (rows' : List (List AV)), tc b v (.slice n rows' .no) ≤ tc b v (.slice sz rows own) := by
      intro n rows'
      have : tc b v (.slice n rows' .no) = 0 := by unfold tc; split <;> simp_all
      omega
    unfold normS
    simp only
    split
    · split
      · split
        · exact hno _ _
        · split
          · exact hno _ _
          · exact Nat.le_refl _
      · exact Nat.le_refl _
    · exact Nat.le_refl _
  | _ => exact Nat.le_refl _
theorem normS_spare {I : Mem} {w : World} {t : TypeId} {v : Value} {a : AV} (h : SpareOk I w v a) : SpareOk I w v (normS P t a) := by
  cases a with
  | slice sz rows own =>
    have hno : ∀ n (rows' : List (List AV)), SpareOk I w v (.slice n rows' .no) := by
      intro n rows' _ _ _ _ _ _ _ h; cases h
    unfold normS
    simp only
    split
    · split
      · split
        · exact hno _ _
        · split
          · exact hno _ _
          · exact h
      · exact h
    · exact h
  | _ => exact h
theorem normV_cases (t : TypeId) (a : AV) : (∃ cs, a = .agg cs ∧ (normV P t a = .agg cs ∨ ∃ ts, normV P t a = .agg (normCs P ts cs))) ∨ normV P t a = normS P t a := by
  cases a with
  | agg cs =>
    refine .inl ⟨cs, rfl, ?_⟩
    unfold normV
    simp only
    split
    · split
      · exact .inr ⟨_, rfl⟩
      · exact .inl rfl
    · exact .inl rfl
  | _ => exact .inr rfl
theorem normV_rep {I : Mem} {μ : List Nat} {t : TypeId} {v : Value} {a : AV} (h : Rep I μ v a) : Rep I μ v (normV P t a) := by
  rcases normV_cases (P := P) t a with ⟨cs, rfl, e | ⟨ts, e⟩⟩ | e
  · rw [e]; exact h
  · rw [e]
    cases h with
    | agg cs' _ ho h1 _ => exact .agg cs' _ ho (normCs_rep h1) .nil
  · rw [e]; exact normS_rep h
theorem normV_tc {b : Nat} {t : TypeId} {v : Value} {a : AV} : tc b v (normV P t a) ≤ tc b v a := by
  have h0 : ∀ cs, tc b v (.agg cs) = 0 := fun cs => by unfold tc; split <;> simp_all
  rcases normV_cases (P := P) t a with ⟨cs, rfl, e | ⟨ts, e⟩⟩ | e
  · rw [e]; exact Nat.le_refl _
  · rw [e, h0]; exact Nat.zero_le _
  · rw [e]; exact normS_tc
theorem normV_spare {I : Mem} {w : World} {t : TypeId} {v : Value} {a : AV} (h : SpareOk I w v a) : SpareOk I w v (normV P t a) := by
  rcases normV_cases (P := P) t a with ⟨cs, rfl, e | ⟨ts, e⟩⟩ | e
  · rw [e]; exact h
  · rw [e]; intro _ _ _ _ _ _ _ h; cases h
  · rw [e]; exact normS_spare h
theorem normL_rep {I : Mem} {μ : List Nat} : ∀ {ts : List TypeId} {vs : List Value} {as : List AV}, RepL I μ vs as → RepL I μ vs (normL P ts as)
  | [], _, _, h => by unfold normL; exact h
  | t :: ts, _, [], h => h
  | t :: ts, [], a :: as, h => by cases h
  | t :: ts, v :: vs, a :: as, h => by
    obtain ⟨h1, h2⟩ := h.uncons
    exact .cons (normV_rep h1) (normL_rep h2)
theorem CPost.norm {I J : Mem} {μ ν : List Nat} {HV HV' : List (List Value)} {w w' : World} {H : Heap} {cargs : List Value} {args : List AV} {r : CRes} {e : Ending} {b : Bool} {ts : List TypeId}
    (h : CPost I μ HV w H cargs args r.out r.H J ν HV' e w') : CPost I μ HV w H cargs args (normRes P b ts r).out (normRes P b ts r).H J ν HV' e w' := by
  cases b with
  | false => exact h
  | true =>
    have key : ∀ o, OutRel J ν w' o e → OutRel J ν w' (normO P ts o) e ∧ ∀ b, outTok b (normO P ts o) e ≤ outTok b o e := by
      intro o ho
      cases o with
      | panic v => exact ⟨ho, fun b => Nat.le_refl _⟩
      | ret v =>
        obtain ⟨v', rfl, h1, h2⟩ := ho
        unfold normO
        simp only
        split
        · exact ⟨⟨v', rfl, normV_rep h1, normV_spare h2⟩, fun b => normV_tc⟩
        · split
          · rename_i vs
            refine ⟨⟨v', rfl, ?_, fun _ _ _ _ _ _ _ h => by cases h⟩, fun b => ?_⟩
            · cases h1 with
              | tuple ws aws hw _ => exact .tuple ws _ (normL_rep hw) .nil
            · have : tc b v' (.tuple (normL P ts vs)) = 0 := by unfold tc; split <;> simp_all
              simp only [outTok, this]; omega
          · exact ⟨⟨v', rfl, h1, h2⟩, fun b => Nat.le_refl _⟩
    obtain ⟨k1, k2⟩ := key r.out h.outr
    exact ⟨h.h, h.eff, h.mu, k1, fun b => by have := h.one b; have := k2 b; simp only [normRes]; omega, fun b hb => h.tok b (by have := k2 b; simp only [normRes] at hb; omega)⟩
/-- The interpreter's calls are the model's. -/
theorem acall_sound (hmix : P.follows .mixedOrders = true) (hng : ∀ (f : FuncId) (fn : Func), P.funcs[f]? = some fn → (fn.name == "runtime.NumGoroutine") = false) {ext : Ext} {I0 : Mem} (hext : ExtSound P I0 ext) (hextb : ∀ (f : FuncId) e, ext f = some e → ∃ (fn : Func) (c : Code), P.funcs[f]? = some fn ∧ fn.body = some c) :
    ∀ k, CallSound P I0 (acall P cfg ext k) := by
  intro k
  induction k with
  | zero => intro f args rm H res h; simp [acall] at h
  | succ k ih =>
    intro f args rm H res h I μ HV w cargs hI hh hr hs h1
    simp only [acall] at h
    split at h
    · rename_i e he
      split at h
      · split at h
        · rename_i out H' heq
          simp only [Option.some.injEq] at h; subst h
          obtain ⟨fn, c, hf, hb⟩ := hextb f e he
          exact ⟨⟨fn, c, hf, hb, hng f fn hf⟩, hext f e he args H out H' heq I μ HV w cargs hI hh hr hs h1⟩
        · cases h
      · cases h
    · split at h
      · cases h
      · rename_i fn hf
        split at h
        · cases h
        · rename_i c hb
          rw [Option.map_eq_some_iff] at h
          obtain ⟨res0, h, rfl⟩ := h
          obtain ⟨b1, b2⟩ := body_sound (ih.mono hI) hmix hf hb h hh hr hs h1
          refine ⟨⟨fn, c, hf, hb, hng f fn hf⟩, ?_⟩
          cases rm with
          | none =>
            refine (b1 rfl).mono fun e w' ⟨J, ν, HV', hp⟩ => ?_
            obtain ⟨ν', HV'', hq⟩ := hp.cutRes hh.l1
            exact ⟨J, ν', HV'', hq.norm⟩
          | returning =>
            intro u hu
            refine (b2 u hu).mono ?_
            rintro e u' w' ⟨J, ν, HV', hp, hm⟩
            refine ⟨J, ν, HV', hp.norm, ?_⟩
            unfold normRes; split <;> exact hm
          | panicking v r =>
            intro u hu
            refine (b2 u hu).mono ?_
            rintro e u' w' ⟨J, ν, HV', hp, hm⟩
            refine ⟨J, ν, HV', hp.norm, ?_⟩
            unfold normRes; split <;> exact hm
end
end Go.Eng
end
