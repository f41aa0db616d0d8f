/-
  THE ENGINE, part 13: any order of a region comes to what the text's order comes to.
-/
import Derived.Test.YtnohjjhgdkpgcaaDoorE12
set_option linter.unusedVariables false
set_option linter.unusedSimpArgs false
namespace Go.Eng

section
variable {P : Program} {cfg : FuncId → FCfg} {call : FuncId → List AV → RM → Heap → Option CRes}

/-- What a run in the text's order went through. -/
structure Trace (P : Program) (cfg : FuncId → FCfg) (call : FuncId → List AV → RM → Heap → Option CRes) (f : FuncId) (ops : Array Oper) (i n : Nat) (l : List Oper) (ancs : List Nat) (foot : List (Nat × Nat)) (σ : Nat → St) : Prop where
  step : ∀ m, i ≤ m → m < n → ∃ o R W anc, l[m - i]? = some o ∧ astep P cfg call f ops o (σ m) = some (.next (σ (m + 1))) ∧ foot[m]? = some (R, W) ∧ R = footR cfg f ops o (σ m) ∧ W = footW cfg f ops o (σ m) ∧
    ancs[m]? = some anc ∧ anc = ancBits (ancs.take m) o.after.toList ∧ edgesDown m o.after.toList = true ∧ apartFrom anc R W 0 (foot.take m) = true

theorem adraw_trace {f : FuncId} {ops : Array Oper} : ∀ (l : List Oper) (i : Nat) (ancs : List Nat) (foot : List (Nat × Nat)) (s s' : St), adraw P cfg call f ops l i ancs foot s = some s' → ancs.length = i → foot.length = i →
    ∃ ancsF footF σ, ancsF.take i = ancs ∧ footF.take i = foot ∧ ancsF.length = i + l.length ∧ footF.length = i + l.length ∧ σ i = s ∧ σ (i + l.length) = s' ∧ Trace P cfg call f ops i (i + l.length) l ancsF footF σ := by
  intro l
  induction l with
  | nil =>
    intro i ancs foot s s' h h1 h2
    simp only [adraw, Option.some.injEq] at h
    subst h
    exact ⟨ancs, foot, fun _ => s, by simp [← h1], by simp [← h2], by simp [h1], by simp [h2], rfl, rfl, ⟨fun m hm hm2 => by simp at hm2; omega⟩⟩
  | cons o r ih =>
    intro i ancs foot s s' h h1 h2
    simp only [adraw] at h
    split at h
    · rename_i hc
      split at h
      · rename_i s1 hs
        obtain ⟨A, F, σ, a1, a2, a3, a4, a5, a6, a7⟩ := ih (i + 1) _ _ s1 s' h (by simp [h1]) (by simp [h2])
        have eA : A.take i = ancs := by
          have := congrArg (List.take i) a1
          rw [List.take_take, Nat.min_eq_left (by omega), List.take_append_of_le_length (by omega), List.take_of_length_le (l := ancs) (by omega)] at this
          exact this
        have eF : F.take i = foot := by
          have := congrArg (List.take i) a2
          rw [List.take_take, Nat.min_eq_left (by omega), List.take_append_of_le_length (by omega), List.take_of_length_le (l := foot) (by omega)] at this
          exact this
        have gA : A[i]? = some (ancBits ancs o.after.toList) := by
          have := congrArg (fun l => l[i]?) a1
          simp only [List.getElem?_take, if_pos (Nat.lt_succ_self i)] at this
          rw [this, List.getElem?_append_right (by omega)]; simp [h1]
        have gF : F[i]? = some (footR cfg f ops o s, footW cfg f ops o s) := by
          have := congrArg (fun l => l[i]?) a2
          simp only [List.getElem?_take, if_pos (Nat.lt_succ_self i)] at this
          rw [this, List.getElem?_append_right (by omega)]; simp [h2]
        refine ⟨A, F, fun j => if j = i then s else σ j, eA, eF, by simp [a3]; omega, by simp [a4]; omega, by simp, ?_, ⟨fun m hm hm2 => ?_⟩⟩
        · show (if i + (o :: r).length = i then s else σ (i + (o :: r).length)) = s'
          rw [if_neg (by simp)]
          rw [show i + (o :: r).length = i + 1 + r.length by simp; omega]; exact a6
        · by_cases e : m = i
          · subst e
            refine ⟨o, _, _, _, by simp, ?_, gF, by simp, by simp, gA, by rw [eA], hc.1, ?_⟩
            · simp [a5]; exact hs
            · rw [eF]; exact hc.2
          · obtain ⟨o', R, W, anc, b1, b2, b3, b4, b5, b6, b7, b8, b9⟩ := a7.step m (by omega) (by simp at hm2; omega)
            refine ⟨o', R, W, anc, ?_, ?_, b3, ?_, ?_, b6, b7, b8, b9⟩
            · have : m - i = (m - (i + 1)) + 1 := by omega
              rw [this]; simpa using b1
            · rw [if_neg e, if_neg (by omega)]; exact b2
            · rw [if_neg e]; exact b4
            · rw [if_neg e]; exact b5
      · cases h
    · cases h

theorem apartFrom_spec {anc R W : Nat} : ∀ {l : List (Nat × Nat)} {j k : Nat} {r w : Nat}, apartFrom anc R W j l = true → l[k]? = some (r, w) →
    anc.testBit (j + k) = true ∨ ∀ x, ¬ (w.testBit x = true ∧ (R.testBit x = true ∨ W.testBit x = true)) ∧ ¬ (r.testBit x = true ∧ W.testBit x = true) := by
  intro l
  induction l with
  | nil => intro j k r w _ h; simp at h
  | cons p l ih =>
    intro j k r w h hk
    obtain ⟨r0, w0⟩ := p
    simp only [apartFrom, Bool.and_eq_true, Bool.or_eq_true, beq_iff_eq] at h
    cases k with
    | zero =>
      simp only [List.getElem?_cons_zero, Option.some.injEq, Prod.mk.injEq] at hk
      obtain ⟨rfl, rfl⟩ := hk
      rcases h.1 with h1 | h1
      · exact .inl h1
      · right
        intro x
        have := congrArg (fun n => Nat.testBit n x) h1
        simp only [Nat.testBit_or, Nat.testBit_and, Nat.zero_testBit, Bool.or_eq_false_iff, Bool.and_eq_false_imp] at this
        refine ⟨fun ⟨q1, q2⟩ => ?_, fun ⟨q1, q2⟩ => ?_⟩
        · have := this.1 q1
          rcases q2 with q2 | q2 <;> simp_all
        · have := this.2 q1; simp_all
    | succ k =>
      rcases ih h.2 (by simpa using hk) with h1 | h1
      · left; rwa [show j + (k + 1) = j + 1 + k by omega]
      · exact .inr h1

theorem ancBits_spec {ancs : List Nat} {j : Nat} : ∀ {es : List Edge}, (ancBits ancs es).testBit j = true → ∃ e ∈ es, Region.binds .any e = true ∧ (e.on = j ∨ (ancs.getD e.on 0).testBit j = true) := by
  intro es
  induction es with
  | nil => intro h; simp [ancBits] at h
  | cons e es ih =>
    intro h
    simp only [ancBits, Nat.testBit_or, Bool.or_eq_true] at h
    rcases h with h | h
    · split at h
      · rename_i hb
        simp only [Nat.testBit_or, Nat.testBit_two_pow, Bool.or_eq_true, decide_eq_true_eq] at h
        exact ⟨e, by simp, hb, h⟩
      · simp at h
    · obtain ⟨e', h1, h2⟩ := ih h
      exact ⟨e', by simp [h1], h2⟩

theorem edgesDown_spec {i : Nat} : ∀ {es : List Edge}, edgesDown i es = true → ∀ e ∈ es, Region.binds .any e = true → e.on < i := by
  intro es
  induction es with
  | nil => intro _ e he; simp at he
  | cons e es ih =>
    intro h e' he hb
    simp only [edgesDown, Bool.and_eq_true, Bool.or_eq_true, Bool.not_eq_true', decide_eq_true_eq] at h
    simp only [List.mem_cons] at he
    rcases he with rfl | he
    · rcases h.1 with h1 | h1
      · rw [hb] at h1; cases h1
      · exact h1
    · exact ih h.2 e' he hb

/-- A state after some of the operations: each place as the last of them that writes it left it. -/
structure Part (n : Nat) (σ : Nat → St) (W : Nat → Nat) (anc : Nat → Nat) (S : Nat → Prop) (u : St) : Prop where
  len : SameLen (σ 0) u
  places : ∀ x, ∃ j, j ≤ n ∧ (j = 0 ∨ (S (j - 1) ∧ (W (j - 1)).testBit x = true ∧ 0 < j)) ∧ loc u x = loc (σ j) x ∧ ∀ m, S m → m < n → (W m).testBit x = true → m < j
  closed : ∀ m, S m → m < n → ∀ j, j < n → (anc m).testBit j = true → S j

theorem order_sound {f : FuncId} {ops : Array Oper} {s s' : St} (h : adraw P cfg call f ops ops.toList 0 [] [] s = some s') (t : Nat) :
    aops P cfg call f ops (Region.linearise .any ops t) s = some (.normal, s') := by
  obtain ⟨A, F, σ, _, _, hA, hF, h0, hn, tr⟩ := adraw_trace ops.toList 0 [] [] s s' h rfl rfl
  simp only [Nat.zero_add] at hA hF hn tr
  have hsz : ops.toList.length = ops.size := by simp
  rw [hsz] at hA hF hn tr
  let W : Nat → Nat := fun m => (F.getD m (0, 0)).2
  let R : Nat → Nat := fun m => (F.getD m (0, 0)).1
  let anc : Nat → Nat := fun m => A.getD m 0
  have st : ∀ m, m < ops.size → ∃ o, ops[m]? = some o ∧ astep P cfg call f ops o (σ m) = some (.next (σ (m + 1))) ∧ R m = footR cfg f ops o (σ m) ∧ W m = footW cfg f ops o (σ m) ∧
      (∀ j, (anc m).testBit j = true → ∃ e ∈ o.after.toList, Region.binds .any e = true ∧ (e.on = j ∨ (anc e.on).testBit j = true)) ∧ (∀ e ∈ o.after.toList, Region.binds .any e = true → e.on < m) ∧
      ∀ j, j < m → (anc m).testBit j = true ∨ ∀ x, ¬ ((W j).testBit x = true ∧ ((R m).testBit x = true ∨ (W m).testBit x = true)) ∧ ¬ ((R j).testBit x = true ∧ (W m).testBit x = true) := by
    intro m hm
    obtain ⟨o, r, wv, an, b1, b2, b3, b4, b5, b6, b7, b8, b9⟩ := tr.step m (Nat.zero_le _) hm
    have eW : W m = wv := by simp [W, List.getD_eq_getElem?_getD, b3]
    have eR : R m = r := by simp [R, List.getD_eq_getElem?_getD, b3]
    have eA : anc m = an := by simp [anc, List.getD_eq_getElem?_getD, b6]
    refine ⟨o, by simpa using b1, b2, by rw [eR, b4], by rw [eW, b5], fun j hj => ?_, edgesDown_spec b8, fun j hj => ?_⟩
    · rw [eA, b7] at hj
      obtain ⟨e, h1, h2, h3⟩ := ancBits_spec hj
      refine ⟨e, h1, h2, h3.imp id fun h4 => ?_⟩
      have hlt := edgesDown_spec b8 e h1 h2
      simp only [anc]
      rw [List.getD_eq_getElem?_getD] at h4 ⊢
      rwa [List.getElem?_take, if_pos hlt] at h4
    · have hjF : F[j]? = some (R j, W j) := by
        have : j < F.length := by omega
        simp [R, W, List.getD_eq_getElem?_getD, List.getElem?_eq_getElem this]
      have := apartFrom_spec (k := j) (r := R j) (w := W j) b9 (by rw [List.getElem?_take, if_pos hj]; exact hjF)
      rw [eA, eR, eW]; simpa using this
  have hlen : ∀ m, m ≤ ops.size → SameLen (σ 0) (σ m) := by
    intro m
    induction m with
    | zero => intro _; exact ⟨rfl, rfl⟩
    | succ m ih =>
      intro hm
      obtain ⟨o, b1, b2, _⟩ := st m (by omega)
      obtain ⟨_, _, k3, _⟩ := step_local (s' := σ m) ⟨rfl, rfl⟩ b2 (fun _ _ => rfl)
      have := ih (by omega)
      exact ⟨this.1.trans k3.1, this.2.trans k3.2⟩
  have hkeep : ∀ m, m < ops.size → ∀ x, (W m).testBit x = false → loc (σ (m + 1)) x = loc (σ m) x := by
    intro m hm x hx
    obtain ⟨o, b1, b2, b3, b4, _⟩ := st m hm
    obtain ⟨_, _, _, k4, _⟩ := step_local (s' := σ m) ⟨rfl, rfl⟩ b2 (fun _ _ => rfl)
    exact k4 x (by rw [← b4]; exact hx)
  -- from the last writer on nothing turns
  have hrun : ∀ x j i, j ≤ i → i ≤ ops.size → (∀ m, j ≤ m → m < i → (W m).testBit x = false) → loc (σ i) x = loc (σ j) x := by
    intro x j i hji hi hno
    induction i with
    | zero => have : j = 0 := by omega
              subst this; rfl
    | succ i ih =>
      by_cases e : j = i + 1
      · subst e; rfl
      · rw [hkeep i (by omega) x (hno i (by omega) (by omega))]
        exact ih (by omega) (by omega) fun m h1 h2 => hno m h1 (by omega)
  -- one operation more
  have hone : ∀ (S : Nat → Prop) u i, Part ops.size σ W anc S u → i < ops.size → ¬ S i → (∀ o, ops[i]? = some o → ∀ e ∈ o.after.toList, Region.binds .any e = true → S e.on) →
      ∃ o u', ops[i]? = some o ∧ astep P cfg call f ops o u = some (.next u') ∧ Part ops.size σ W anc (fun m => S m ∨ m = i) u' := by
    intro S u i hp hi hSi hed
    obtain ⟨o, b1, b2, b3, b4, b5, b6, b7⟩ := st i hi
    have hanc : ∀ j, j < ops.size → (anc i).testBit j = true → S j := by
      intro j hj hb
      obtain ⟨e, h1, h2, h3⟩ := b5 j hb
      have hSe := hed o b1 e h1 h2
      rcases h3 with rfl | h3
      · exact hSe
      · exact hp.closed e.on hSe (by have := b6 e h1 h2; omega) j hj h3
    have hfor : ∀ x, ((R i).testBit x = true ∨ (W i).testBit x = true) → ∀ m, S m → m < ops.size → (W m).testBit x = true → m < i := by
      intro x hx m hm hmn hw
      rcases Nat.lt_trichotomy m i with h1 | h1 | h1
      · exact h1
      · subst h1; exact absurd hm hSi
      · obtain ⟨om, c1, c2, c3, c4, c5, c6, c7⟩ := st m hmn
        rcases c7 i h1 with h2 | h2
        · exact absurd (hp.closed m hm hmn i hi h2) hSi
        · rcases hx with hx | hx
          · exact absurd ⟨hx, hw⟩ (h2 x).2
          · exact absurd ⟨hx, .inr hw⟩ (h2 x).1
    have hback : ∀ x, (R i).testBit x = true → ∀ m, m < i → (W m).testBit x = true → S m := by
      intro x hx m hm hw
      rcases b7 m hm with h2 | h2
      · exact hanc m (by omega) h2
      · exact absurd ⟨hw, .inl hx⟩ (h2 x).1
    have hl : SameLen (σ i) u := ⟨(hlen i (by omega)).1.symm.trans hp.len.1, (hlen i (by omega)).2.symm.trans hp.len.2⟩
    obtain ⟨k1, k2, k3, k4, u', k5, k6, k7, k8⟩ := step_local hl b2 (s' := u) (fun x hx => by
      rw [← b3] at hx
      obtain ⟨j, j1, j2, j3, j4⟩ := hp.places x
      rw [j3]
      have hji : j ≤ i := by
        rcases j2 with j2 | ⟨j2, j5, j6⟩
        · omega
        · have := hfor x (.inl hx) (j - 1) j2 (by omega) j5; omega
      exact hrun x j i hji (by omega) fun m h1 h2 => by
        cases hw : (W m).testBit x with
        | false => rfl
        | true => have := j4 m (hback x hx m h2 hw) (by omega) hw; omega)
    refine ⟨o, u', b1, k5, ⟨hp.len.1.trans k6.1, hp.len.2.trans k6.2⟩, fun x => ?_, ?_⟩
    · cases hx : (W i).testBit x with
      | true =>
        refine ⟨i + 1, by omega, .inr ⟨.inr (by omega), by simpa using hx, by omega⟩, k7 x (by rw [← b4]; exact hx), fun m hm hmn hw => ?_⟩
        rcases hm with hm | hm
        · have := hfor x (.inr hx) m hm hmn hw; omega
        · omega
      | false =>
        obtain ⟨j, j1, j2, j3, j4⟩ := hp.places x
        refine ⟨j, j1, j2.imp id fun ⟨a, b, c⟩ => ⟨.inl a, b, c⟩, by rw [k8 x (by rw [← b4]; exact hx)]; exact j3, fun m hm hmn hw => ?_⟩
        rcases hm with hm | hm
        · exact j4 m hm hmn hw
        · subst hm; rw [hx] at hw; cases hw
    · intro m hm hmn j hj hb
      rcases hm with hm | hm
      · exact .inl (hp.closed m hm hmn j hj hb)
      · subst hm; exact .inl (hanc j hj hb)
  -- all of them
  have hend : ∀ (S : Nat → Prop) u, Part ops.size σ W anc S u → (∀ m, m < ops.size → S m) → u = s' := by
    intro S u hp hall
    rw [← hn]
    refine loc_ext fun x => ?_
    obtain ⟨j, j1, j2, j3, j4⟩ := hp.places x
    rw [j3]
    symm
    exact hrun x j ops.size j1 (Nat.le_refl _) fun m h1 h2 => by
      cases hw : (W m).testBit x with
      | false => rfl
      | true => have := j4 m (hall m h2) h2 hw; omega
  have hgo : ∀ (fuel t : Nat) (listed : Array Bool) (u : St), listed.size = ops.size → Part ops.size σ W anc (fun m => listed.getD m false = true) u →
      (∃ L : List Nat, L.length ≤ fuel ∧ ∀ j, j < ops.size → listed.getD j false = false → j ∈ L) →
      aops P cfg call f ops (Region.linearise.go .any ops fuel t listed []) u = some (.normal, s') := by
    intro fuel
    induction fuel with
    | zero =>
      intro t listed u hsz hp ⟨L, hL, hL2⟩
      have : L = [] := by simpa using hL
      subst this
      have := hend _ u hp fun m hm => by
        cases hc : listed.getD m false with
        | true => rfl
        | false => have := hL2 m hm hc; simp at this
      simp only [Region.linearise.go, List.reverse_nil, aops, this]
    | succ fuel ih =>
      intro t listed u hsz hp ⟨L, hL, hL2⟩
      simp only [Region.linearise.go]
      change aops P cfg call f ops (match (Region.ready .any ops listed)[t % (Region.ready .any ops listed).length]? with
        | some i => Region.linearise.go .any ops fuel (t / (Region.ready .any ops listed).length) (listed.setIfInBounds i true) [i]
        | none => [].reverse) u = _
      cases hi : (Region.ready .any ops listed)[t % (Region.ready .any ops listed).length]? with
      | none =>
        have hnil : Region.ready .any ops listed = [] := by
          cases hr : Region.ready .any ops listed with
          | nil => rfl
          | cons x xs =>
            rw [hr] at hi
            have hlt : t % (x :: xs).length < (x :: xs).length := Nat.mod_lt _ (by simp)
            simp at hi
            simp at hlt
            omega
        have hall : ∀ m, m < ops.size → listed.getD m false = true := by
          intro m
          induction m using Nat.strongRecOn with
          | _ m ihm =>
            intro hm
            cases hc : listed.getD m false with
            | true => rfl
            | false =>
              obtain ⟨o, b1, b2, b3, b4, b5, b6, b7⟩ := st m hm
              have : m ∈ Region.ready .any ops listed := by
                simp only [Region.ready, List.mem_filter, List.mem_range]
                refine ⟨hm, ?_⟩
                simp only [b1, Option.map_some, Option.getD_some, Bool.and_eq_true, Bool.not_eq_true']
                refine ⟨?_, ?_⟩
                · have hml : m < listed.size := by rw [hsz]; exact hm
                  simp [Array.getD, hml] at hc ⊢; exact hc
                · rw [Array.all_eq_true_iff_forall_mem]
                  intro e he
                  cases hb : Region.binds .any e with
                  | false => simp
                  | true =>
                    have he' : e ∈ o.after.toList := by simpa using he
                    have h1 := b6 e he' hb
                    have := ihm e.on h1 (by omega)
                    simp [this]
              rw [hnil] at this; simp at this
        have := hend _ u hp hall
        simp only [List.reverse_nil, aops, this]
      | some i =>
        simp only []
        rw [linearise_go_acc, List.reverse_singleton, List.singleton_append]
        have hmem := List.mem_of_getElem? hi
        simp only [Region.ready, List.mem_filter, List.mem_range] at hmem
        obtain ⟨hilt, hrest⟩ := hmem
        obtain ⟨o, b1, b2, b3, b4, b5, b6, b7⟩ := st i hilt
        simp only [b1, Option.map_some, Option.getD_some, Bool.and_eq_true, Bool.not_eq_true'] at hrest
        obtain ⟨hr1, hr2⟩ := hrest
        have hil : i < listed.size := by rw [hsz]; exact hilt
        have hif : listed.getD i false = false := by simp [Array.getD, hil] at hr1 ⊢; exact hr1
        obtain ⟨o2, u', c1, c2, c3⟩ := hone _ u i hp hilt (by rw [hif]; simp) (fun o' ho' e he hb => by
          rw [b1] at ho'; cases ho'
          rw [Array.all_eq_true_iff_forall_mem] at hr2
          have := hr2 e (by simpa using he)
          rw [hb] at this; simpa using this)
        have hset : ∀ m, (listed.setIfInBounds i true).getD m false = true ↔ (listed.getD m false = true ∨ m = i) := by
          intro m
          rw [Array.getD_eq_getD_getElem?, Array.getD_eq_getD_getElem?, Array.getElem?_setIfInBounds]
          by_cases e : i = m
          · subst e; simp [hil]
          · have e' : ¬ m = i := fun h => e h.symm
            simp [e, e']
        simp only [aops, c1, c2]
        refine ih _ _ u' (by simp [hsz]) ?_ ⟨L.erase i, ?_, fun j hj hjf => ?_⟩
        · obtain ⟨d1, d2, d3⟩ := c3
          refine ⟨d1, fun x => ?_, fun m hm hmn j hj hb => ?_⟩
          · obtain ⟨j, j1, j2, j3, j4⟩ := d2 x
            exact ⟨j, j1, j2.imp id fun ⟨a, b, c⟩ => ⟨(hset _).2 a, b, c⟩, j3, fun m hm => j4 m ((hset m).1 hm)⟩
          · exact (hset j).2 (d3 m ((hset m).1 hm) hmn j hj hb)
        · rw [List.length_erase_of_mem (hL2 i hilt hif)]; omega
        · have hne : j ≠ i := by rintro rfl; have := (hset j).2 (.inr rfl); rw [this] at hjf; cases hjf
          have hjf' : listed.getD j false = false := by
            cases hc : listed.getD j false with
            | false => rfl
            | true => have := (hset j).2 (.inl hc); rw [this] at hjf; cases hjf
          exact (List.mem_erase_of_ne hne).2 (hL2 j hj hjf')
  unfold Region.linearise
  refine hgo ops.size t _ s (by simp) ?_ ⟨List.range ops.size, by simp, fun j hj _ => by simpa using hj⟩
  have hno : ∀ m, (Array.replicate ops.size false).getD m false = false := by
    intro m
    rw [Array.getD_eq_getD_getElem?, Array.getElem?_replicate]
    split <;> rfl
  refine ⟨by rw [h0]; exact ⟨rfl, rfl⟩, fun x => ⟨0, Nat.zero_le _, .inl rfl, by rw [h0], fun m hm => by rw [hno m] at hm; cases hm⟩, fun m hm => by rw [hno m] at hm; cases hm⟩
end
end Go.Eng
