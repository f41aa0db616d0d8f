/-
  THE ENGINE, part 6: a frame at work stands to the model's frame (FInv); a step of one operation keeps it.
-/
import Derived.Test.YtnohjjhgdkpgcaaDoorE5
set_option linter.unusedVariables false
set_option linter.unusedSimpArgs false
namespace Go.Eng

/-- A block of variables of one's own. -/
def BlockOk (I : Mem) (μ : List Nat) (w : World) (b : Nat) (ws : List Value) (cs : List AV) : Prop :=
  (∃ e, w.heap[b]? = some (.cells ws.toArray e (0, 0))) ∧ RepL I μ ws cs ∧ OneCells ws ∧ AllSpare I w ws cs ∧ ∀ o, I b o = none

def LocOk (I : Mem) (μ : List Nat) (w : World) : LV → Option LCell → Prop
  | some (b, ws), some (_, cs) => BlockOk I μ w b ws cs
  | none, none => True
  | _, _ => False

structure HInv (I : Mem) (μ : List Nat) (HV : List (List Value)) (w : World) (H : Heap) : Prop where
  imm : ImmOk I w
  l1 : μ.length = H.length
  l2 : HV.length = H.length
  ok : ∀ (id : Nat) b ws cs, μ[id]? = some b → HV[id]? = some ws → H[id]? = some cs → BlockOk I μ w b ws cs

structure FInv (I : Mem) (μ : List Nat) (HV : List (List Value)) (lv : List LV) (w : World) (vs : List Value) (tm : List AV) (lh : List (Option LCell)) (H : Heap) : Prop where
  h : HInv I μ HV w H
  tms : TRepL I μ lh lv vs tm
  sp : AllSpare I w vs tm
  ll : lv.length = lh.length
  lo : ∀ (t : Nat) d c, lv[t]? = some d → lh[t]? = some c → LocOk I μ w d c
  one : ∀ b, μ.count b + tcss b HV H + zsum (lc b) lv lh + tcs b vs tm ≤ 1

section
variable {P : Program} {I J : Mem} {μ ν : List Nat} {HV : List (List Value)} {lh : List (Option LCell)} {lv : List LV} {w w' : World} {vs : List Value} {tm : List AV} {H : Heap} {A : Nat → Prop}

theorem tcs_pos {b : Nat} {vs : List Value} {as : List AV} (h : 0 < tcs b vs as) : ∃ (i : Nat) (v : Value) (a : AV), vs[i]? = some v ∧ as[i]? = some a ∧ 0 < tc b v a := zsum_pos (tc b) h

theorem tc_pos {b : Nat} {v : Value} {a : AV} (h : 0 < tc b v a) : ∃ o len cap s sz rows, v = .slice (some ⟨b, o, s⟩) len cap ∧ a = .slice sz rows .yes := by
  unfold tc at h
  split at h
  · rename_i x l c s r
    split at h
    · rename_i e; obtain ⟨b', o, s'⟩ := x; simp only at e; subst e; exact ⟨o, l, c, s', s, r, rfl, rfl⟩
    · omega
  · omega

theorem AllSpare.lt {vs : List Value} {as : List AV} (h : AllSpare I w vs as) (hr : TRepL I μ lh lv vs as) {b : Nat} (hb : 0 < tcs b vs as) : b < w.heap.size := by
  obtain ⟨i, v, a, hv, ha, hp⟩ := tcs_pos hb
  obtain ⟨o, len, cap, s, sz, rows, rfl, rfl⟩ := tc_pos hp
  have h1 := hr.2 i _ _ hv ha
  rcases slice_inv h1 with ⟨_, e⟩ | ⟨b', o', cap', ws, e, _⟩ | ⟨_, _, _, _, ho⟩
  rotate_left 2
  · rcases ho with h | ⟨h, _⟩ <;> cases h
  · cases e
  · cases e
    obtain ⟨⟨c, e, hc, _⟩, _⟩ := h i _ _ hv ha _ _ _ _ _ _ rfl rfl
    exact (Array.getElem?_eq_some_iff.1 hc).1

theorem AllSpare.eff {vs : List Value} {as : List AV} (h : AllSpare I w vs as) (he : Eff I w A J w') (hA : ∀ b, A b → tcs b vs as = 0) : AllSpare J w' vs as := fun i v a hv ha =>
  he.spare (h i v a hv ha) fun b hb => by
    have := hA b hb
    have h2 := zsum_get (tc b) hv ha
    simp only [tcs] at this
    omega

theorem BlockOk.eff {b : Nat} {ws : List Value} {cs : List AV} (h : BlockOk I μ w b ws cs) (he : Eff I w A J w') (hμ : LeN μ ν) (hb : ¬ A b) (hA : ∀ g, A g → tcs g ws cs = 0) : BlockOk J ν w' b ws cs := by
  obtain ⟨⟨e, h1⟩, h2, h3, h4, h5⟩ := h
  have hlt : b < w.heap.size := (Array.getElem?_eq_some_iff.1 h1).1
  exact ⟨⟨e, by rw [he.keep b hlt hb]; exact h1⟩, h2.mono he.le hμ, h3, h4.eff he hA, he.none hlt hb h5⟩

theorem BlockOk.lt {b : Nat} {ws : List Value} {cs : List AV} (h : BlockOk I μ w b ws cs) : b < w.heap.size := by
  obtain ⟨⟨e, h1⟩, _⟩ := h
  exact (Array.getElem?_eq_some_iff.1 h1).1

theorem BlockOk.trepl {b : Nat} {ws : List Value} {cs : List AV} (h : BlockOk I μ w b ws cs) : TRepL I μ lh lv ws cs := ⟨h.2.1.length, fun i v a hv ha => .of (h.2.1.get hv ha)⟩

theorem BlockOk.ltc {b g : Nat} {ws : List Value} {cs : List AV} (h : BlockOk I μ w b ws cs) (hg : 0 < tcs g ws cs) : g < w.heap.size :=
  AllSpare.lt (lh := []) (lv := []) h.2.2.2.1 h.trepl hg

/-- The heap's part behind a step. -/
theorem HInv.eff (h : HInv I μ HV w H) (he : Eff I w A J w') (hJ : ImmOk J w') (hA : ∀ b, A b → μ.count b + tcss b HV H = 0) : HInv J μ HV w' H := by
  refine ⟨hJ, h.l1, h.l2, fun id b ws cs hb hw hc => (h.ok id b ws cs hb hw hc).eff he (.refl μ) (fun hAb => ?_) (fun g hg => ?_)⟩
  · have := hA b hAb
    have h2 : 0 < μ.count b := List.count_pos_iff.2 (List.mem_of_getElem? hb)
    omega
  · have := hA g hg
    have h2 := zsum_get (tcs g) hw hc
    simp only [tcss] at this
    omega

theorem HInv.lt (h : HInv I μ HV w H) {b : Nat} (hb : 0 < μ.count b + tcss b HV H) : b < w.heap.size := by
  rcases Nat.eq_zero_or_pos (μ.count b) with h0 | h0
  · have : 0 < zsum (tcs b) HV H := by simp only [tcss] at hb; omega
    obtain ⟨i, ws, cs, hw, hc, hp⟩ := zsum_pos _ this
    have hi : i < μ.length := by rw [h.l1]; exact (List.getElem?_eq_some_iff.1 hc).1
    exact (h.ok i _ ws cs (List.getElem?_eq_getElem hi) hw hc).ltc hp
  · obtain ⟨i, hi⟩ := List.getElem?_of_mem (List.count_pos_iff.1 h0)
    have hl := (List.getElem?_eq_some_iff.1 hi).1
    have h1 : i < HV.length := by rw [h.l2, ← h.l1]; exact hl
    have h2 : i < H.length := by rw [← h.l1]; exact hl
    exact (h.ok i b _ _ hi (List.getElem?_eq_getElem h1) (List.getElem?_eq_getElem h2)).lt

theorem loc_lt (hlo : ∀ (t : Nat) d c, lv[t]? = some d → lh[t]? = some c → LocOk I μ w d c) {b : Nat} (hb : 0 < zsum (lc b) lv lh) : b < w.heap.size := by
  obtain ⟨t, d, c, hd, hc, hp⟩ := zsum_pos _ hb
  have := hlo t d c hd hc
  unfold lc at hp
  split at hp
  · rename_i b' ws g cs
    by_cases e : b' = b
    · subst e; exact BlockOk.lt this
    · rw [if_neg e] at hp; exact BlockOk.ltc this (by omega)
  · omega

theorem loc_eff (hlo : ∀ (t : Nat) d c, lv[t]? = some d → lh[t]? = some c → LocOk I μ w d c) (he : Eff I w A J w') (hμ : LeN μ ν) (hA : ∀ b, A b → zsum (lc b) lv lh = 0) :
    ∀ (t : Nat) d c, lv[t]? = some d → lh[t]? = some c → LocOk J ν w' d c := by
  intro t d c hd hc
  have h1 := hlo t d c hd hc
  have h2 : ∀ b, A b → lc b d c = 0 := fun b hb => by have := hA b hb; have := zsum_get (lc b) hd hc; omega
  unfold LocOk at *
  split
  · rename_i b ws g cs
    refine BlockOk.eff h1 he hμ (fun hb => ?_) (fun g' hg => ?_)
    · have := h2 b hb; simp [lc] at this
    · have := h2 g' hg; simp only [lc] at this; omega
  · trivial
  · rename_i hx hy
    split at h1
    · exact absurd rfl (hx _ _ _ _ rfl)
    · exact absurd rfl (hy rfl)
    · exact h1

theorem FInv.lt (h : FInv I μ HV lv w vs tm lh H) {b : Nat} (hb : 0 < μ.count b + tcss b HV H + zsum (lc b) lv lh + tcs b vs tm) : b < w.heap.size := by
  by_cases h1 : 0 < μ.count b + tcss b HV H
  · exact h.h.lt h1
  · by_cases h2 : 0 < zsum (lc b) lv lh
    · exact loc_lt h.lo h2
    · exact h.sp.lt h.tms (by omega)

/-! ### slots set and disowned -/

theorem TRepL.set {vs : List Value} {as : List AV} (h : TRepL I μ lh lv vs as) (i : Nat) {v : Value} {a : AV} (k : TRep I μ lh lv v a) : TRepL I μ lh lv (vs.set i v) (as.set i a) := by
  refine ⟨by simp [h.1], fun j w b hw hb => ?_⟩
  rw [List.getElem?_set] at hw hb
  by_cases hij : i = j
  · rw [if_pos hij] at hw hb
    split at hw
    · rename_i hl; rw [if_pos (by rw [← h.1]; exact hl)] at hb; cases hw; cases hb; exact k
    · simp at hw
  · rw [if_neg hij] at hw hb; exact h.2 j w b hw hb

theorem AllSpare.set {vs : List Value} {as : List AV} (hl : vs.length = as.length) (h : AllSpare I w vs as) (i : Nat) {v : Value} {a : AV} (k : SpareOk I w v a) : AllSpare I w (vs.set i v) (as.set i a) := by
  intro j u b hw hb
  rw [List.getElem?_set] at hw hb
  by_cases hij : i = j
  · rw [if_pos hij] at hw hb
    split at hw
    · rename_i hl'; rw [if_pos (by rw [← hl]; exact hl')] at hb; cases hw; cases hb; exact k
    · simp at hw
  · rw [if_neg hij] at hw hb; exact h j u b hw hb

theorem tcs_set_le {vs : List Value} {as : List AV} (hl : vs.length = as.length) (i : Nat) (v : Value) (a : AV) (b : Nat) : tcs b (vs.set i v) (as.set i a) ≤ tcs b vs as + tc b v a := by
  by_cases hi : i < vs.length
  · have := zsum_set (tc b) hl (a' := v) (b' := a) (List.getElem?_eq_getElem hi) (List.getElem?_eq_getElem (by rw [← hl]; exact hi))
    simp only [tcs]; omega
  · rw [List.set_eq_of_length_le (by omega), List.set_eq_of_length_le (by omega)]; simp only [tcs]; omega

def putV (vs : List Value) (d : Option Tmp) (v : Value) : List Value :=
  match d with
  | some t => vs.set t v
  | none => vs

theorem modify_dis (as : List AV) (t : Nat) : (as.modify t AV.dis).length = as.length := by simp

theorem TRepL.modify {vs : List Value} {as : List AV} (h : TRepL I μ lh lv vs as) (t : Nat) : TRepL I μ lh lv vs (as.modify t AV.dis) := by
  refine ⟨by simp [h.1], fun j w b hw hb => ?_⟩
  rw [List.getElem?_modify] at hb
  cases ha : as[j]? with
  | none => simp [ha] at hb
  | some a =>
    simp only [ha, Option.map_some, Option.some.injEq] at hb
    have h1 := h.2 j w a hw ha
    by_cases e : t = j
    · simp [e] at hb; subst hb; exact h1.dis
    · simp [e] at hb; subst hb; exact h1

theorem AllSpare.modify {vs : List Value} {as : List AV} (h : AllSpare I w vs as) (t : Nat) : AllSpare I w vs (as.modify t AV.dis) := by
  intro j u b hw hb
  rw [List.getElem?_modify] at hb
  cases ha : as[j]? with
  | none => simp [ha] at hb
  | some a =>
    simp only [ha, Option.map_some, Option.some.injEq] at hb
    by_cases e : t = j
    · simp [e] at hb; subst hb; exact SpareOk.dis I w _ _
    · simp [e] at hb; subst hb; exact h j u a hw ha

theorem tcs_modify {vs : List Value} {as : List AV} (t b : Nat) {v : Value} {a : AV} (hl : vs.length = as.length) (hv : vs[t]? = some v) (ha : as[t]? = some a) : tcs b vs (as.modify t AV.dis) + tc b v a = tcs b vs as := by
  have e : as.modify t AV.dis = as.set t a.dis := by
    apply List.ext_getElem?
    intro j
    rw [List.getElem?_modify, List.getElem?_set]
    by_cases h : t = j
    · subst h
      obtain ⟨h1, h2⟩ := List.getElem?_eq_some_iff.1 ha
      simp [h1, h2]
    · simp [h]
  have e2 : vs.set t v = vs := by
    apply List.ext_getElem?
    intro j
    rw [List.getElem?_set]
    by_cases h : t = j
    · subst h
      obtain ⟨h1, h2⟩ := List.getElem?_eq_some_iff.1 hv
      simp [h1, h2]
    · simp [h]
  have := zsum_set (tc b) hl (a' := v) (b' := a.dis) hv ha
  rw [e2, ← e, tc_dis] at this
  simpa using this

/-- The concrete operands. -/
def cevals (vs : List Value) : Operand → Value
  | .tmp t => vs.getD t undef
  | .const v => v
  | .global g => .pointer (some ⟨g, 0, none⟩)
  | .func f => .func (.func f) #[] #[]

theorem aeval_rep (h : TRepL I μ lh lv vs tm) (x : Operand) : TRep I μ lh lv (cevals vs x) (aeval tm x) := by
  cases x with
  | tmp t =>
    simp only [cevals, aeval, List.getD_eq_getElem?_getD]
    cases ha : tm[t]? with
    | none => simp; exact .any _ .nil
    | some a =>
      have ht : t < vs.length := by rw [h.1]; exact (List.getElem?_eq_some_iff.1 ha).1
      simp [List.getElem?_eq_getElem ht]
      exact h.2 t _ a (List.getElem?_eq_getElem ht) ha
  | const v => exact .of (.ofVal v)
  | global g => exact .of (.val _ .nil)
  | func f => exact .of (.func _ _ _ _ _ .nil .nil .nil)

theorem aeval_spare (h : TRepL I μ lh lv vs tm) (hs : AllSpare I w vs tm) (x : Operand) : SpareOk I w (cevals vs x) (aeval tm x) := by
  cases x with
  | tmp t =>
    simp only [cevals, aeval, List.getD_eq_getElem?_getD]
    cases ha : tm[t]? with
    | none => simp; intro _ _ _ _ _ _ _ h; cases h
    | some a =>
      have ht : t < vs.length := by rw [h.1]; exact (List.getElem?_eq_some_iff.1 ha).1
      simp [List.getElem?_eq_getElem ht]
      exact hs t _ a (List.getElem?_eq_getElem ht) ha
  | const v => exact (ofVal_noOwn v).spare w _
  | global g => intro _ _ _ _ _ _ _ h; cases h
  | func f => intro _ _ _ _ _ _ _ h; cases h

theorem aeval_tc_other (x : Operand) (b : Nat) (hx : ∀ t, x ≠ .tmp t) : tc b (cevals vs x) (aeval tm x) = 0 := by
  cases x with
  | tmp t => exact absurd rfl (hx t)
  | const v => exact (ofVal_noOwn v).tc b _
  | global g => rfl
  | func f => rfl

theorem vals_length (s : List AV) : ∀ (xs : List Operand) (ms : List Bool), (vals s xs ms).length = xs.length
  | [], _ => rfl
  | x :: r, b :: bs => by simp [vals, vals_length s r bs]
  | x :: r, [] => by simp [vals, vals_length s r []]

theorem vals_get (s : List AV) : ∀ (xs : List Operand) (ms : List Bool) (i : Nat) (x : Operand), xs[i]? = some x → (vals s xs ms)[i]? = some (if ms.getD i false then aeval s x else (aeval s x).dis)
  | [], _, i, x, h => by simp at h
  | y :: r, b :: bs, 0, x, h => by simp at h; subst h; simp [vals]
  | y :: r, [], 0, x, h => by simp at h; subst h; simp [vals]
  | y :: r, b :: bs, i + 1, x, h => by simpa [vals] using vals_get s r bs i x (by simpa using h)
  | y :: r, [], i + 1, x, h => by simpa [vals] using vals_get s r [] i x (by simpa using h)

theorem vals_rep (h : TRepL I μ lh lv vs tm) (xs : List Operand) (ms : List Bool) : TRepL I μ lh lv (xs.map (cevals vs)) (vals tm xs ms) := by
  refine ⟨by simp [vals_length], fun i v a hv ha => ?_⟩
  rw [List.getElem?_map] at hv
  cases hx : xs[i]? with
  | none => simp [hx] at hv
  | some x =>
    simp [hx] at hv; subst hv
    rw [vals_get _ _ _ _ _ hx] at ha
    simp only [Option.some.injEq] at ha; subst ha
    split
    · exact aeval_rep h x
    · exact (aeval_rep h x).dis

theorem vals_spare (h : TRepL I μ lh lv vs tm) (hs : AllSpare I w vs tm) (xs : List Operand) (ms : List Bool) : AllSpare I w (xs.map (cevals vs)) (vals tm xs ms) := by
  intro i v a hv ha
  rw [List.getElem?_map] at hv
  cases hx : xs[i]? with
  | none => simp [hx] at hv
  | some x =>
    simp [hx] at hv; subst hv
    rw [vals_get _ _ _ _ _ hx] at ha
    simp only [Option.some.injEq] at ha; subst ha
    split
    · exact aeval_spare h hs x
    · exact SpareOk.dis I w _ _

theorem disT_rep (h : TRepL I μ lh lv vs tm) : ∀ (xs : List Operand) (ms : List Bool), TRepL I μ lh lv vs (disT tm xs ms) := by
  intro xs
  induction xs generalizing tm with
  | nil => intro ms; simpa [disT] using h
  | cons x xs ih =>
    intro ms
    cases ms with
    | nil => cases x <;> simpa [disT] using h
    | cons b bs => cases x <;> cases b <;> simp only [disT] <;> first | exact ih (h.modify _) bs | exact ih h bs

theorem disT_spare (h : AllSpare I w vs tm) : ∀ (xs : List Operand) (ms : List Bool), AllSpare I w vs (disT tm xs ms) := by
  intro xs
  induction xs generalizing tm with
  | nil => intro ms; simpa [disT] using h
  | cons x xs ih =>
    intro ms
    cases ms with
    | nil => cases x <;> simpa [disT] using h
    | cons b bs => cases x <;> cases b <;> simp only [disT] <;> first | exact ih (h.modify _) bs | exact ih h bs

theorem aeval_modify {t : Nat} {x : Operand} (hx : x ≠ .tmp t) (s : List AV) : aeval (s.modify t AV.dis) x = aeval s x := by
  cases x with
  | tmp u =>
    have : t ≠ u := fun h => hx (by rw [h])
    simp [aeval, List.getD_eq_getElem?_getD, List.getElem?_modify, this]
  | _ => rfl

theorem dis_dis (a : AV) : a.dis.dis = a.dis := by
  cases a with
  | slice sz rows own => cases own <;> rfl
  | _ => rfl

theorem aeval_modify_dis (t : Nat) (x : Operand) (s : List AV) : (aeval (s.modify t AV.dis) x).dis = (aeval s x).dis := by
  by_cases hx : x = .tmp t
  · subst hx
    simp only [aeval, List.getD_eq_getElem?_getD, List.getElem?_modify]
    cases s[t]? with
    | none => simp
    | some a => simp [dis_dis]
  · rw [aeval_modify hx]

theorem vals_modify {t : Nat} (s : List AV) : ∀ (xs : List Operand) (ms : List Bool), t ∉ movedTmps xs ms → vals (s.modify t AV.dis) xs ms = vals s xs ms
  | [], ms, _ => by cases ms <;> rfl
  | x :: r, [], h => by
    simp only [vals]
    rw [aeval_modify_dis, vals_modify s r [] (by cases r <;> simp [movedTmps])]
  | x :: r, b :: bs, h => by
    simp only [vals]
    have h2 : t ∉ movedTmps r bs := by
      intro hm; apply h
      cases x <;> cases b <;> simp [movedTmps, hm]
    rw [vals_modify s r bs h2, aeval_modify_dis]
    cases b with
    | false => rfl
    | true =>
      have : x ≠ .tmp t := by rintro rfl; apply h; simp [movedTmps]
      simp [aeval_modify this]

/-- What is taken is not left. -/
theorem moved_count (hl : vs.length = tm.length) (b : Nat) : ∀ (xs : List Operand) (ms : List Bool), (movedTmps xs ms).Nodup →
    tcs b (xs.map (cevals vs)) (vals tm xs ms) + tcs b vs (disT tm xs ms) = tcs b vs tm := by
  intro xs
  induction xs generalizing tm with
  | nil => intro ms _; simp [disT, vals, zsum]
  | cons x xs ih =>
    intro ms hn
    cases ms with
    | nil =>
      have h1 : ∀ (xs : List Operand), tcs b (xs.map (cevals vs)) (vals tm xs []) = 0 := by
        intro xs; induction xs with
        | nil => rfl
        | cons x xs ih => simp only [List.map_cons, vals, zsum, tc_dis]; simpa using ih
      have h2 : disT tm (x :: xs) [] = tm := by cases x <;> rfl
      rw [h1, h2]; omega
    | cons m ms =>
      cases m with
      | false =>
        have hn' : (movedTmps xs ms).Nodup := by cases x <;> simpa [movedTmps] using hn
        have := ih hl ms hn'
        have h2 : disT tm (x :: xs) (false :: ms) = disT tm xs ms := by cases x <;> rfl
        rw [h2]; simp only [List.map_cons, vals, zsum, if_false, tc_dis, Bool.false_eq_true, tcs] at *; omega
      | true =>
        by_cases hx : ∃ t, x = .tmp t
        · obtain ⟨t, rfl⟩ := hx
          simp only [movedTmps, List.nodup_cons] at hn
          have h3 := ih (tm := tm.modify t AV.dis) (by simp [hl]) ms hn.2
          rw [vals_modify tm xs ms hn.1] at h3
          simp only [List.map_cons, vals, zsum, if_true, disT]
          by_cases ht : t < tm.length
          · have ht2 : t < vs.length := by rw [hl]; exact ht
            have h4 := tcs_modify t b (v := vs[t]) (a := tm[t]) hl (List.getElem?_eq_getElem ht2) (List.getElem?_eq_getElem ht)
            have e1 : cevals vs (.tmp t) = vs[t] := by simp [cevals, List.getD_eq_getElem?_getD, List.getElem?_eq_getElem ht2]
            have e2 : aeval tm (.tmp t) = tm[t] := by simp [aeval, List.getD_eq_getElem?_getD, List.getElem?_eq_getElem ht]
            rw [e1, e2]; simp only [tcs] at *; omega
          · have e : tm.modify t AV.dis = tm := by
              apply List.ext_getElem?
              intro j
              rw [List.getElem?_modify]
              by_cases h : t = j
              · subst h; simp [List.getElem?_eq_none (Nat.le_of_not_lt ht)]
              · simp [h]
            have e2 : aeval tm (.tmp t) = .any := by simp [aeval, List.getD_eq_getElem?_getD, List.getElem?_eq_none (Nat.le_of_not_lt ht)]
            rw [e] at h3 ⊢
            rw [e2]
            have : tc b (cevals vs (.tmp t)) .any = 0 := by unfold tc; split <;> simp_all
            rw [this]; simp only [tcs] at *; omega
        · have hx' : ∀ t, x ≠ .tmp t := fun t h => hx ⟨t, h⟩
          have hn' : (movedTmps xs ms).Nodup := by cases x <;> first | simpa [movedTmps] using hn | exact absurd rfl (hx' _)
          have h3 := ih hl ms hn'
          have h2 : disT tm (x :: xs) (true :: ms) = disT tm xs ms := by cases x <;> first | rfl | exact absurd rfl (hx' _)
          rw [h2]; simp only [List.map_cons, vals, zsum, if_true]
          rw [aeval_tc_other x b hx']; simp only [tcs] at *; omega
end
end Go.Eng
