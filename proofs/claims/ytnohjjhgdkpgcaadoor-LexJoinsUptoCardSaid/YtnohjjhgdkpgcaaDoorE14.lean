/-
  THE ENGINE, part 14: code.
-/
import Derived.Scope
import Derived.Test.YtnohjjhgdkpgcaaDoorE13
set_option linter.unusedVariables false
set_option linter.unusedSimpArgs false
namespace Go.Eng

theorem lowss_flatten (n : Nat) : ∀ l : List (List AV), lowss n l = true → lows n l.flatten = true := by
  have app : ∀ a b : List AV, lows n a = true → lows n b = true → lows n (a ++ b) = true := by
    intro a
    induction a with
    | nil => intro b _ h; exact h
    | cons x a ih =>
      intro b h1 h2
      simp only [lows, Bool.and_eq_true, List.cons_append] at h1 ⊢
      exact ⟨h1.1, ih b h1.2 h2⟩
  intro l
  induction l with
  | nil => intro _; simp [lows]
  | cons x l ih =>
    intro h
    simp only [lowss, Bool.and_eq_true] at h
    rw [List.flatten_cons]
    exact app _ _ h.1 (ih h.2)

theorem RepL.take_mu {I : Mem} {μ : List Nat} {n : Nat} {vs : List Value} {as : List AV} (h : RepL I μ vs as) (hl : lows n as = true) : RepL I (μ.take n) vs as := by
  induction h with
  | nil => exact .nil
  | any v _ ih => simp only [lows, Bool.and_eq_true] at hl; exact .any v (ih hl.2)
  | val v _ ih => simp only [lows, Bool.and_eq_true] at hl; exact .val v (ih hl.2)
  | slice0 sz own _ ih => simp only [lows, Bool.and_eq_true] at hl; exact .slice0 sz own (ih hl.2)
  | slice b o cap sz ws rows own hr _ h1 h2 h3 _ ih1 ih2 =>
    simp only [lows, AV.low, Bool.and_eq_true] at hl
    exact .slice b o cap sz ws rows own hr (ih1 (lowss_flatten n rows hl.1)) h1 h2 h3 (ih2 hl.2)
  | slice1 a cap sz own ho _ ih => simp only [lows, Bool.and_eq_true] at hl; exact .slice1 a cap sz own ho (ih hl.2)
  | ref b o ws cs hr _ _ ih1 ih2 => simp only [lows, AV.low, Bool.and_eq_true] at hl; exact .ref b o ws cs hr (ih1 hl.1) (ih2 hl.2)
  | ptr id off b hb _ ih =>
    simp only [lows, AV.low, Bool.and_eq_true, Nat.blt_eq] at hl
    exact .ptr id off b (by rw [List.getElem?_take, if_pos hl.1]; exact hb) (ih hl.2)
  | func fn f c af ac _ _ _ ih1 ih2 ih3 => simp only [lows, AV.low, Bool.and_eq_true] at hl; exact .func fn f c af ac (ih1 hl.1.1) (ih2 hl.1.2) (ih3 hl.2)
  | iface t v a _ _ ih1 ih2 => simp only [lows, AV.low, Bool.and_eq_true] at hl; exact .iface t v a (ih1 (by simp only [lows, Bool.and_true]; exact hl.1)) (ih2 hl.2)
  | agg cs acs ho _ _ ih1 ih2 => simp only [lows, AV.low, Bool.and_eq_true] at hl; exact .agg cs acs ho (ih1 hl.1) (ih2 hl.2)
  | tuple ws aws _ _ ih1 ih2 => simp only [lows, AV.low, Bool.and_eq_true] at hl; exact .tuple ws aws (ih1 hl.1) (ih2 hl.2)

theorem count_take (b : Nat) : ∀ (l : List Nat) (n : Nat), (l.take n).count b ≤ l.count b := fun l n => (List.take_sublist n l).count_le b

theorem zsum_take {α β : Type} (f : α → β → Nat) : ∀ (n : Nat) (l : List α) (m : List β), zsum f (l.take n) (m.take n) ≤ zsum f l m
  | 0, l, m => by simp [zsum]
  | n + 1, [], m => by simp [zsum]
  | n + 1, a :: l, [] => by simp [zsum]
  | n + 1, a :: l, b :: m => by
    have := zsum_take f n l m
    simp only [List.take_succ_cons, zsum]; omega

theorem lowss_get {n : Nat} : ∀ {H : Heap} {i : Nat} {cs : List AV}, lowss n H = true → H[i]? = some cs → lows n cs = true := by
  intro H
  induction H with
  | nil => intro i cs _ h; simp at h
  | cons a H ih =>
    intro i cs h hi
    simp only [lowss, Bool.and_eq_true] at h
    cases i with
    | zero => simp only [List.getElem?_cons_zero, Option.some.injEq] at hi; subst hi; exact h.1
    | succ i => simp only [List.getElem?_cons_succ] at hi; exact ih h.2 hi

theorem HInv.take {J : Mem} {ν : List Nat} {HV : List (List Value)} {w : World} {H : Heap} {n : Nat} (h : HInv J ν HV w H) (hl : lowss n (H.take n) = true) : HInv J (ν.take n) (HV.take n) w (H.take n) := by
  refine ⟨h.imm, by simp [h.l1], by simp [h.l2], ?_⟩
  intro id b ws cs h1 h2 h3
  have hlow := lowss_get hl h3
  rw [List.getElem?_take] at h1 h2 h3
  split at h1
  · rename_i hlt
    rw [if_pos hlt] at h2 h3
    obtain ⟨a1, a2, a3, a4, a5⟩ := h.ok id b ws cs h1 h2 h3
    exact ⟨a1, a2.take_mu hlow, a3, a4, a5⟩
  · cases h1

theorem TRep.take_mu {I : Mem} {μ : List Nat} {lh : List (Option LCell)} {lv : List LV} {n : Nat} {v : Value} {a : AV} (h : TRep I μ lh lv v a) (hl : a.low n = true) : TRep I (μ.take n) lh lv v a := by
  have key : ∀ {a : AV}, a.low n = true → Rep I μ v a → Rep I (μ.take n) v a := fun {a} hl h => h.take_mu (by simp only [lows, Bool.and_true]; exact hl)
  cases a <;> first | exact h | exact key hl h

theorem lows_get {n : Nat} : ∀ {l : List AV} {i : Nat} {a : AV}, lows n l = true → l[i]? = some a → a.low n = true := by
  intro l
  induction l with
  | nil => intro i a _ h; simp at h
  | cons b l ih =>
    intro i a h hi
    simp only [lows, Bool.and_eq_true] at h
    cases i with
    | zero => simp only [List.getElem?_cons_zero, Option.some.injEq] at hi; subst hi; exact h.1
    | succ i => simp only [List.getElem?_cons_succ] at hi; exact ih h.2 hi

theorem lowL_get {n : Nat} : ∀ {l : List (Option LCell)} {i g : Nat} {cs : List AV}, lowL n l = true → l[i]? = some (some (g, cs)) → lows n cs = true := by
  intro l
  induction l with
  | nil => intro i g cs _ h; simp at h
  | cons b l ih =>
    intro i g cs h hi
    cases i with
    | zero =>
      simp only [List.getElem?_cons_zero, Option.some.injEq] at hi; subst hi
      simp only [lowL, Bool.and_eq_true] at h; exact h.1
    | succ i =>
      simp only [List.getElem?_cons_succ] at hi
      cases b with
      | none => simp only [lowL] at h; exact ih h hi
      | some c => obtain ⟨g', cs'⟩ := c; simp only [lowL, Bool.and_eq_true] at h; exact ih h.2 hi

theorem DRel.take_mu {I : Mem} {μ : List Nat} {n : Nat} : ∀ {ds : List Deferred} {as : List ADef}, DRel I μ ds as → lowD n as = true → DRel I (μ.take n) ds as
  | [], [], h, _ => h
  | d :: ds, a :: as, h, hl => by
    simp only [lowD, Bool.and_eq_true] at hl
    obtain ⟨cap, h1, h2, h3⟩ := h.1
    exact ⟨⟨cap, h1, h2.take_mu hl.1, h3⟩, DRel.take_mu h.2 hl.2⟩
  | [], _ :: _, h, _ => h.elim
  | _ :: _, [], h, _ => h.elim

theorem RmOk.take_mu {I : Mem} {μ : List Nat} {n : Nat} {cs0 cs : List Frame} {rm : RM} (h : RmOk I μ cs0 cs rm) (hl : lowRM n rm = true) : RmOk I (μ.take n) cs0 cs rm := by
  cases rm with
  | none => exact h
  | returning => obtain ⟨c, r, u, h1, h2, h3⟩ := h; exact ⟨c, r, u, h1, h2, h3⟩
  | panicking v b =>
    obtain ⟨c, r, u, h1, h2, x, o, h3, h4, h5⟩ := h
    exact ⟨c, r, u, h1, h2, x, o, h3, h4, h5.take_mu (by simp only [lows, Bool.and_true]; exact hl)⟩

section
variable {P : Program} {cfg : FuncId → FCfg} {call : FuncId → List AV → RM → Heap → Option CRes} {B : Base} {I J : Mem} {μ ν : List Nat}

theorem maskTmps_get (m : Nat) : ∀ (l : List AV) (i j : Nat), (maskTmps m i l)[j]? = (l[j]?).map fun v => if m.testBit (i + j) then v else .any
  | [], i, j => by simp [maskTmps]
  | v :: r, i, 0 => by simp [maskTmps]
  | v :: r, i, j + 1 => by
    simp only [maskTmps, List.getElem?_cons_succ]
    rw [maskTmps_get m r (i + 1) j, show i + 1 + j = i + (j + 1) by omega]

theorem maskTmps_length (m : Nat) : ∀ (l : List AV) (i : Nat), (maskTmps m i l).length = l.length
  | [], i => rfl
  | v :: r, i => by simp [maskTmps, maskTmps_length m r]

theorem maskLh_get (m : Nat) : ∀ (l : List (Option LCell)) (i j : Nat), (maskLh m i l)[j]? = (l[j]?).map fun v => if m.testBit (i + j) then v else none
  | [], i, j => by simp [maskLh]
  | v :: r, i, 0 => by simp [maskLh]
  | v :: r, i, j + 1 => by
    simp only [maskLh, List.getElem?_cons_succ]
    rw [maskLh_get m r (i + 1) j, show i + 1 + j = i + (j + 1) by omega]

theorem maskLh_length (m : Nat) : ∀ (l : List (Option LCell)) (i : Nat), (maskLh m i l).length = l.length
  | [], i => rfl
  | v :: r, i => by simp [maskLh, maskLh_length m r]

def maskLv (m : Nat) : Nat → List LV → List LV
  | _, [] => []
  | i, c :: r => (if m.testBit i then c else none) :: maskLv m (i + 1) r

theorem maskLv_get (m : Nat) : ∀ (l : List LV) (i j : Nat), (maskLv m i l)[j]? = (l[j]?).map fun v => if m.testBit (i + j) then v else none
  | [], i, j => by simp [maskLv]
  | v :: r, i, 0 => by simp [maskLv]
  | v :: r, i, j + 1 => by
    simp only [maskLv, List.getElem?_cons_succ]
    rw [maskLv_get m r (i + 1) j, show i + 1 + j = i + (j + 1) by omega]

theorem maskLv_length (m : Nat) : ∀ (l : List LV) (i : Nat), (maskLv m i l).length = l.length
  | [], i => rfl
  | v :: r, i => by simp [maskLv, maskLv_length m r]

theorem tcs_mask_le (m b : Nat) : ∀ (vs : List Value) (tm : List AV) (i : Nat), tcs b vs (maskTmps m i tm) ≤ tcs b vs tm
  | [], _, _ => by simp [zsum]
  | v :: vs, [], _ => by simp [maskTmps, zsum]
  | v :: vs, a :: tm, i => by
    have := tcs_mask_le m b vs tm (i + 1)
    simp only [maskTmps, zsum, tcs] at *
    have h2 : tc b v (if m.testBit i = true then a else .any) ≤ tc b v a := by
      split
      · exact Nat.le_refl _
      · have : tc b v .any = 0 := by unfold tc; split <;> simp_all
        omega
    omega

theorem lc_mask_le (m b : Nat) : ∀ (lv : List LV) (lh : List (Option LCell)) (i : Nat), zsum (lc b) (maskLv m i lv) (maskLh m i lh) ≤ zsum (lc b) lv lh
  | [], _, _ => by simp [maskLv, zsum]
  | v :: vs, [], _ => by simp [maskLh, maskLv, zsum]
  | v :: vs, a :: tm, i => by
    have := lc_mask_le m b vs tm (i + 1)
    simp only [maskLv, maskLh, zsum] at *
    have h2 : lc b (if m.testBit i = true then v else none) (if m.testBit i = true then a else none) ≤ lc b v a := by
      split
      · exact Nat.le_refl _
      · exact Nat.zero_le _
    omega

theorem mask_sound0 {s : St} {a : Act} {cs : List Frame} {w : World} {HV : List (List Value)} {lv : List LV} (h : Good B s a cs w I μ HV lv) {m : Nat} (hall : (maskTmps m 0 s.tmps).all (lpIn m) = true) :
    ∃ lv', Good B { s with tmps := maskTmps m 0 s.tmps, lh := maskLh m 0 s.lh } a cs w I μ HV lv' := by
  refine ⟨maskLv m 0 lv, ⟨⟨h.inv.h, ⟨by rw [maskTmps_length]; exact h.inv.tms.1, ?_⟩, ?_, by rw [maskLv_length, maskLh_length]; exact h.inv.ll, ?_, ?_⟩, h.df, h.rm, h.dk, h.eff, ?_, h.mu, h.bs⟩⟩
  · intro i v x hv hx
    have hx0 := hx
    rw [maskTmps_get] at hx
    cases hy : s.tmps[i]? with
    | none => simp [hy] at hx
    | some y =>
      simp only [hy, Option.map_some, Option.some.injEq] at hx
      by_cases hb : m.testBit (0 + i) = true
      · rw [if_pos hb] at hx; subst hx
        have h1 := h.inv.tms.2 i v y hv hy
        cases y with
        | lp t g off =>
          obtain ⟨g', cs1, b1, ws1, e1, e2, e3, e4⟩ := h1
          have hl := List.all_eq_true.1 hall _ (List.mem_of_getElem? hx0)
          simp only [lpIn] at hl
          exact ⟨g', cs1, b1, ws1, by rw [maskLh_get, e1]; simp [hl], by rw [maskLv_get, e2]; simp [hl], e3, e4⟩
        | _ => exact h1
      · rw [if_neg hb] at hx; subst hx; exact .any _ .nil
  · intro i v x hv hx
    rw [maskTmps_get] at hx
    cases hy : s.tmps[i]? with
    | none => simp [hy] at hx
    | some y =>
      simp only [hy, Option.map_some, Option.some.injEq] at hx
      by_cases hb : m.testBit (0 + i) = true
      · rw [if_pos hb] at hx; subst hx; exact h.inv.sp i v y hv hy
      · rw [if_neg hb] at hx; subst hx; intro _ _ _ _ _ _ _ h; cases h
  · intro t d c hd hc
    rw [maskLv_get] at hd
    rw [maskLh_get] at hc
    cases hd0 : lv[t]? with
    | none => simp [hd0] at hd
    | some d0 =>
      cases hc0 : s.lh[t]? with
      | none => simp [hc0] at hc
      | some c0 =>
        simp only [hd0, hc0, Option.map_some, Option.some.injEq] at hd hc
        by_cases hb : m.testBit (0 + t) = true
        · rw [if_pos hb] at hd hc; subst hd hc; exact h.inv.lo t d0 c0 hd0 hc0
        · rw [if_neg hb] at hd hc; subst hd hc; trivial
  · intro b
    have h1 := h.inv.one b
    have h2 := tcs_mask_le m b a.tmps.toList s.tmps 0
    have h3 := lc_mask_le m b lv s.lh 0
    simp only
    omega
  · intro b hb
    have h2 := tcs_mask_le m b a.tmps.toList s.tmps 0
    have h3 := lc_mask_le m b lv s.lh 0
    refine h.tk b ?_
    unfold tok at *
    simp only at hb
    omega

theorem cut_sound {s : St} {a : Act} {cs : List Frame} {w : World} {HV : List (List Value)} {lv : List LV} (h : Good B s a cs w I μ HV lv) : ∃ μ' HV', Good B (cutSt s) a cs w I μ' HV' lv := by
  unfold cutSt
  split
  · exact ⟨_, _, h⟩
  · split
    · rename_i hl
      unfold lowSt at hl
      simp only [Bool.and_eq_true] at hl
      obtain ⟨l1, l2, l3, l4, l5⟩ := hl
      have le : ∀ b, (μ.take s.g.base).count b + tcss b (HV.take s.g.base) (s.g.H.take s.g.base) ≤ μ.count b + tcss b HV s.g.H := by
        intro b
        have h1 := count_take b μ s.g.base
        have h2 : tcss b (HV.take s.g.base) (s.g.H.take s.g.base) ≤ tcss b HV s.g.H := zsum_take _ s.g.base _ _
        omega
      refine ⟨μ.take s.g.base, HV.take s.g.base, ⟨h.inv.h.take l5, ⟨h.inv.tms.1, fun i v a hv ha => (h.inv.tms.2 i v a hv ha).take_mu (lows_get l1 ha)⟩, h.inv.sp, h.inv.ll, ?_, ?_⟩, h.df.take_mu l3, h.rm.take_mu l4, h.dk, h.eff, ?_, ?_, h.bs⟩
      · intro t d c hd hc
        have := h.inv.lo t d c hd hc
        unfold LocOk at this ⊢
        split
        · obtain ⟨a1, a2, a3, a4, a5⟩ := this
          exact ⟨a1, a2.take_mu (lowL_get l2 hc), a3, a4, a5⟩
        · trivial
        · rename_i n1 n2
          split at this
          · exact absurd rfl (n1 _ _ _ _ rfl)
          · exact absurd rfl (n2 rfl)
          · exact this
      · intro b
        have h1 := h.inv.one b
        have h2 := le b
        simp only
        omega
      · intro b hb
        refine h.tk b ?_
        have h2 := le b
        unfold tok at *
        simp only at hb
        omega
      · intro i b hi
        have hlt : i < s.g.base := by rw [h.bs]; exact (List.getElem?_eq_some_iff.1 hi).1
        rw [List.getElem?_take, if_pos hlt]
        exact h.mu i b hi
    · exact ⟨_, _, h⟩

theorem mask_sound {s s' : St} {a : Act} {cs : List Frame} {w : World} {HV : List (List Value)} {lv : List LV} (h : Good B s a cs w I μ HV lv) {live : Option Nat} (hm : maskSt live s = some s') :
    ∃ lv' μ' HV', Good B s' a cs w I μ' HV' lv' := by
  unfold maskSt at hm
  split at hm
  · simp only [Option.some.injEq] at hm; subst hm; exact ⟨lv, μ, HV, h⟩
  · rename_i m
    split at hm
    · rename_i hall
      obtain ⟨lv', h1⟩ := mask_sound0 h hall
      split at hm
      · simp only [Option.some.injEq] at hm; subst hm
        obtain ⟨μ', HV', h2⟩ := cut_sound h1
        exact ⟨lv', μ', HV', h2⟩
      · simp only [Option.some.injEq] at hm; subst hm; exact ⟨lv', μ, HV, h1⟩
    · cases hm

theorem drew_good {s : St} {a : Act} {cs : List Frame} {w : World} {HV : List (List Value)} {lv : List LV} (h : Good B s a cs w I μ HV lv) : Good B s a cs { w with drawn := w.drawn + 1 } I μ HV lv := by
  have he : Eff I w (fun _ => False) I { w with drawn := w.drawn + 1 } := ⟨.refl I, fun _ _ _ h => .inl h, fun _ _ _ => rfl, Nat.le_refl _, rfl, rfl, rfl⟩
  have hI : ImmOk I { w with drawn := w.drawn + 1 } := fun b o v hv => h.inv.h.imm b o v hv
  exact ⟨h.inv.eff he hI (fun _ h => h.elim), h.df, h.rm, h.dk, h.eff.trans he (fun _ h => h.elim), h.tk, h.mu, h.bs⟩

/-- Where code leads. -/
def CRel (P : Program) (B : Base) (x : AX) (s' : St) (m : Machine) (b : Frame) (k : List Item) : Prop :=
  match x with
  | .normal => ∃ a' cs' w' I' μ' HV' lv', Good B s' a' cs' w' I' μ' HV' lv' ∧ Steps P m (lone (b.at a' k) cs' w')
  | .exit id => ∃ a' cs' w' I' μ' HV' lv', Good B s' a' cs' w' I' μ' HV' lv' ∧ ∀ k', exitTo id k = some k' → Steps P m (lone (b.at a' k') cs' w')
  | .ret => ∃ a' cs' w' I' μ' HV' lv' todo, Good B s' a' cs' w' I' μ' HV' lv' ∧ Steps P m (lone { b.at a' todo with mode := .returning } cs' w')
  | .panic v => Panics P B v s' m b k

theorem CRel.of_steps {x : AX} {s' : St} {m m1 : Machine} {b : Frame} {k : List Item} (hs : Steps P m m1) (h : CRel P B x s' m1 b k) : CRel P B x s' m b k := by
  cases x with
  | normal => obtain ⟨a', cs', w', I', μ', HV', lv', h1, h2⟩ := h; exact ⟨a', cs', w', I', μ', HV', lv', h1, hs.trans h2⟩
  | exit id => obtain ⟨a', cs', w', I', μ', HV', lv', h1, h2⟩ := h; exact ⟨a', cs', w', I', μ', HV', lv', h1, fun k' hk => hs.trans (h2 k' hk)⟩
  | ret => obtain ⟨a', cs', w', I', μ', HV', lv', todo, h1, h2⟩ := h; exact ⟨a', cs', w', I', μ', HV', lv', todo, h1, hs.trans h2⟩
  | panic v => obtain ⟨a', cs', w', I', μ', HV', lv', ch, h1, h2, h3⟩ := h; exact ⟨a', cs', w', I', μ', HV', lv', ch, h1, h2, .of_steps hs h3⟩

/-- An item that no exit looks at is passed by. -/
theorem CRel.pass {x : AX} {s' : St} {m : Machine} {b : Frame} {it : Item} {k : List Item} (hi : ∀ id k', exitTo id k = some k' → exitTo id (it :: k) = some k') (hx : x ≠ .normal) (h : CRel P B x s' m b (it :: k)) : CRel P B x s' m b k := by
  cases x with
  | normal => exact absurd rfl hx
  | exit id => obtain ⟨a', cs', w', I', μ', HV', lv', h1, h2⟩ := h; exact ⟨a', cs', w', I', μ', HV', lv', h1, fun k' hk => h2 k' (hi id k' hk)⟩
  | ret => exact h
  | panic v => obtain ⟨a', cs', w', I', μ', HV', lv', ch, h1, h2, h3⟩ := h; exact ⟨a', cs', w', I', μ', HV', lv', ch, h1, h2, h3⟩

theorem crel_ops {x : AX} {s' : St} {m : Machine} {b : Frame} {ops : Array Oper} {k : List Item} (h : (x = .normal ∧ Goes P B s' m b ops [] k) ∨ ∃ v, x = .panic v ∧ Panics P B v s' m b k) : CRel P B x s' m b k := by
  rcases h with ⟨rfl, a', cs', w', I', μ', HV', lv', h1, h2⟩ | ⟨v, rfl, h⟩
  · exact ⟨a', cs', w', I', μ', HV', lv', h1, h2.trans (.one step_region_end)⟩
  · exact h

theorem code_sound (hcall : CallSound P B.I call) (hmix : P.follows .mixedOrders = true) {k : Nat} {f : FuncId} : ∀ (c : Code) (bid : Nat) {s : St} {x : AX} {s' : St}, acode P cfg call k f bid c s = some (x, s') →
    ∀ {a : Act} {cs : List Frame} {w : World} {I : Mem} {μ : List Nat} {HV : List (List Value)} {lv : List LV}, Good B s a cs w I μ HV lv → ∀ {b : Frame} {kk : List Item}, (B.dk = true → b.kind = .deferred) →
      CRel P B x s' (lone (b.at a (.code c :: kk)) cs w) b kk := by
  intro c
  induction c with
  | skip =>
    intro bid s x s' h a cs w I μ HV lv hg b kk hb
    simp only [acode, Option.some.injEq, Prod.mk.injEq] at h
    obtain ⟨rfl, rfl⟩ := h
    exact ⟨a, cs, w, I, μ, HV, lv, hg, .one step_skip⟩
  | region id ops draw =>
    intro bid s x s' h a cs w I μ HV lv hg b kk hb
    cases draw with
    | false =>
      simp only [acode] at h
      exact .of_steps (.one step_region) (crel_ops (ops_sound hcall _ h hg hb))
    | true =>
      simp only [acode] at h
      split at h
      · rename_i s1 hd
        simp only [Option.some.injEq, Prod.mk.injEq] at h
        obtain ⟨rfl, rfl⟩ := h
        have ho := order_sound hd (w.tape w.drawn (.order b.fn id))
        refine .of_steps (.one step_region_draw) (crel_ops (ops := ops) ?_)
        rw [show Region.schedule (P.follows .mixedOrders) ops (w.tape w.drawn (.order b.fn id)) = Region.linearise .any ops (w.tape w.drawn (.order b.fn id)) by simp [Region.schedule, hmix]]
        exact ops_sound hcall _ ho (drew_good hg) hb
      · cases h
  | seq x y ihx ihy =>
    intro bid s r s' h a cs w I μ HV lv hg b kk hb
    simp only [acode] at h
    split at h
    · rename_i s1 h1
      obtain ⟨a1, cs1, w1, I1, μ1, HV1, lv1, g1, st1⟩ := ihx bid h1 hg (b := b) (kk := .code y :: kk) hb
      split at h
      · rename_i s2 hm
        obtain ⟨lv2, μ2, HV2, g2⟩ := mask_sound g1 hm
        exact .of_steps (.head step_seq st1) (ihy bid h g2 hb)
      · cases h
    · rename_i r1 hne
      subst_vars
      have := ihx bid h hg (b := b) (kk := .code y :: kk) hb
      refine .of_steps (.one step_seq) (this.pass (fun id k' hk => by simpa [exitTo] using hk) ?_)
      rintro rfl
      exact hne _ h
  | cond c x y ihx ihy =>
    intro bid s r s' h a cs w I μ HV lv hg b kk hb
    simp only [acode] at h
    have hev : a.eval c = cevals a.tmps.toList c := eval_cevals a c
    have hrep := aeval_rep hg.inv.tms c
    split at h
    · rename_i e
      rw [e] at hrep
      have : a.eval c = .bool true := by rw [hev]; exact toVal_trep hrep rfl
      exact .of_steps (.one (step_cond this)) (ihx bid h hg hb)
    · rename_i e
      rw [e] at hrep
      have : a.eval c = .bool false := by rw [hev]; exact toVal_trep hrep rfl
      exact .of_steps (.one (step_cond this)) (ihy bid h hg hb)
    · cases h
  | block id x ih =>
    intro bid s r s' h a cs w I μ HV lv hg b kk hb
    simp only [acode] at h
    have key : ∀ r1 s1, acode P cfg call k f id x s = some (r1, s1) → CRel P B r1 s1 (lone (b.at a (.code x :: .inBlock id :: kk)) cs w) b (.inBlock id :: kk) := fun r1 s1 h1 => ih id h1 hg hb
    split at h
    · rename_i id' s1 h1
      have := key _ _ h1
      obtain ⟨a1, cs1, w1, I1, μ1, HV1, lv1, g1, st1⟩ := this
      split at h
      · rename_i e
        subst e
        simp only [Option.some.injEq, Prod.mk.injEq] at h
        obtain ⟨rfl, rfl⟩ := h
        exact ⟨a1, cs1, w1, I1, μ1, HV1, lv1, g1, .head step_block (st1 kk (by simp [exitTo]))⟩
      · rename_i e
        simp only [Option.some.injEq, Prod.mk.injEq] at h
        obtain ⟨rfl, rfl⟩ := h
        refine ⟨a1, cs1, w1, I1, μ1, HV1, lv1, g1, fun k' hk => .head step_block (st1 k' ?_)⟩
        have : (id == id') = false := by simp; exact fun h => e h.symm
        simp [exitTo, this, hk]
    · rename_i hne
      have := key _ _ h
      refine .of_steps (.one step_block) ?_
      cases r with
      | normal =>
        obtain ⟨a1, cs1, w1, I1, μ1, HV1, lv1, g1, st1⟩ := this
        exact ⟨a1, cs1, w1, I1, μ1, HV1, lv1, g1, st1.trans (.one step_inBlock)⟩
      | exit id' => exact absurd h (hne id' s')
      | ret => exact this
      | panic v => exact this
  | loop x ih =>
    intro bid s r s' h a cs w I μ HV lv hg b kk hb
    simp only [acode] at h
    refine .of_steps (.one step_loop) ?_
    have key : ∀ (n : Nat) {s : St} {r : AX} {s' : St}, aloop (liveAt (cfg f).live bid) (acode P cfg call k f bid x) n s = some (r, s') → ∀ {a : Act} {cs : List Frame} {w : World} {I : Mem} {μ : List Nat} {HV : List (List Value)} {lv : List LV},
        Good B s a cs w I μ HV lv → CRel P B r s' (lone (b.at a (.code x :: .inLoop x :: kk)) cs w) b kk := by
      intro n
      induction n with
      | zero => intro s r s' h; simp [aloop] at h
      | succ n ihn =>
        intro s r s' h a cs w I μ HV lv hg
        simp only [aloop] at h
        split at h
        · cases h
        · rename_i s0 hm
          obtain ⟨lv0, μ0, HV0, hg0⟩ := mask_sound hg hm
          split at h
          · rename_i s1 h1
            obtain ⟨a1, cs1, w1, I1, μ1, HV1, lv1, g1, st1⟩ := ih bid h1 hg0 (b := b) (kk := .inLoop x :: kk) hb
            exact .of_steps (st1.trans (.one step_inLoop)) (ihn h g1)
          · rename_i hne
            have := ih bid h hg0 (b := b) (kk := .inLoop x :: kk) hb
            refine this.pass (fun id k' hk => by simpa [exitTo] using hk) ?_
            rintro rfl
            exact hne _ h
    exact key k h hg
  | exit id =>
    intro bid s x s' h a cs w I μ HV lv hg b kk hb
    simp only [acode, Option.some.injEq, Prod.mk.injEq] at h
    obtain ⟨rfl, rfl⟩ := h
    exact ⟨a, cs, w, I, μ, HV, lv, hg, fun k' hk => .one (step_exit hk)⟩
  | ret =>
    intro bid s x s' h a cs w I μ HV lv hg b kk hb
    simp only [acode, Option.some.injEq, Prod.mk.injEq] at h
    obtain ⟨rfl, rfl⟩ := h
    exact ⟨a, cs, w, I, μ, HV, lv, _, hg, .one step_ret⟩
  | rangeFunc => intro bid s x s' h; simp [acode] at h
  | scope x ih =>
    intro bid s r s' h a cs w I μ HV lv hg b kk hb
    simp only [acode] at h
    have := ih bid h hg (b := b) (kk := .inScope x :: kk) hb
    refine .of_steps (.one step_scope) ?_
    cases r with
    | normal =>
      obtain ⟨a1, cs1, w1, I1, μ1, HV1, lv1, g1, st1⟩ := this
      exact ⟨a1, cs1, w1, I1, μ1, HV1, lv1, g1, st1.trans (.one step_inScope)⟩
    | exit id => exact this.pass (fun id k' hk => by simpa [exitTo] using hk) (by simp)
    | ret => exact this.pass (fun id k' hk => by simpa [exitTo] using hk) (by simp)
    | panic v => exact this.pass (fun id k' hk => by simpa [exitTo] using hk) (by simp)
  | label l =>
    intro bid s x s' h a cs w I μ HV lv hg b kk hb
    simp only [acode, Option.some.injEq, Prod.mk.injEq] at h
    obtain ⟨rfl, rfl⟩ := h
    exact ⟨a, cs, w, I, μ, HV, lv, hg, .one step_label⟩
  | goto => intro bid s x s' h; simp [acode] at h
  | refuse => intro bid s x s' h; simp [acode] at h
end
end Go.Eng
