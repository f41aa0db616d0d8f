/-
  THE ENGINE, part 14: code.
-/
import Derived.Test.YtjallencclngiaaGreatE13
set_option linter.unusedVariables false
set_option linter.unusedSimpArgs false
namespace Go.Eng

section
variable {P : Program} {cfg : FuncId → FCfg} {call : FuncId → List AV → RM → Heap → Option CRes} {B : Base} {I J : Mem} {μ ν : List Nat}

theorem maskTmps_get (m : Nat) : ∀ (l : List AV) (i j : Nat), (maskTmps m i l)[j]? = (l[j]?).map fun v => if m.testBit (i + j) then v else .any
  | [], i, j => by simp [maskTmps]
  | v :: r, i, 0 => by simp [maskTmps]
  | v :: r, i, j + 1 => by
    simp only [maskTmps, List.getElem?_cons_succ]
    rw [maskTmps_get m r (i + 1) j, show i + 1 + j = i + (j + 1) by omega]

theorem maskTmps_length (m : Nat) : ∀ (l : List AV) (i : Nat), (maskTmps m i l).length = l.length
  | [], i => rfl
  | v :: r, i => by simp [maskTmps, maskTmps_length m r]

theorem maskLh_get (m : Nat) : ∀ (l : List (Option LCell)) (i j : Nat), (maskLh m i l)[j]? = (l[j]?).map fun v => if m.testBit (i + j) then v else none
  | [], i, j => by simp [maskLh]
  | v :: r, i, 0 => by simp [maskLh]
  | v :: r, i, j + 1 => by
    simp only [maskLh, List.getElem?_cons_succ]
    rw [maskLh_get m r (i + 1) j, show i + 1 + j = i + (j + 1) by omega]

theorem maskLh_length (m : Nat) : ∀ (l : List (Option LCell)) (i : Nat), (maskLh m i l).length = l.length
  | [], i => rfl
  | v :: r, i => by simp [maskLh, maskLh_length m r]

def maskLv (m : Nat) : Nat → List LV → List LV
  | _, [] => []
  | i, c :: r => (if m.testBit i then c else none) :: maskLv m (i + 1) r

theorem maskLv_get (m : Nat) : ∀ (l : List LV) (i j : Nat), (maskLv m i l)[j]? = (l[j]?).map fun v => if m.testBit (i + j) then v else none
  | [], i, j => by simp [maskLv]
  | v :: r, i, 0 => by simp [maskLv]
  | v :: r, i, j + 1 => by
    simp only [maskLv, List.getElem?_cons_succ]
    rw [maskLv_get m r (i + 1) j, show i + 1 + j = i + (j + 1) by omega]

theorem maskLv_length (m : Nat) : ∀ (l : List LV) (i : Nat), (maskLv m i l).length = l.length
  | [], i => rfl
  | v :: r, i => by simp [maskLv, maskLv_length m r]

theorem tcs_mask_le (m b : Nat) : ∀ (vs : List Value) (tm : List AV) (i : Nat), tcs b vs (maskTmps m i tm) ≤ tcs b vs tm
  | [], _, _ => by simp [zsum]
  | v :: vs, [], _ => by simp [maskTmps, zsum]
  | v :: vs, a :: tm, i => by
    have := tcs_mask_le m b vs tm (i + 1)
    simp only [maskTmps, zsum, tcs] at *
    have h2 : tc b v (if m.testBit i = true then a else .any) ≤ tc b v a := by
      split
      · exact Nat.le_refl _
      · have : tc b v .any = 0 := by unfold tc; split <;> simp_all
        omega
    omega

theorem lc_mask_le (m b : Nat) : ∀ (lv : List LV) (lh : List (Option LCell)) (i : Nat), zsum (lc b) (maskLv m i lv) (maskLh m i lh) ≤ zsum (lc b) lv lh
  | [], _, _ => by simp [maskLv, zsum]
  | v :: vs, [], _ => by simp [maskLh, maskLv, zsum]
  | v :: vs, a :: tm, i => by
    have := lc_mask_le m b vs tm (i + 1)
    simp only [maskLv, maskLh, zsum] at *
    have h2 : lc b (if m.testBit i = true then v else none) (if m.testBit i = true then a else none) ≤ lc b v a := by
      split
      · exact Nat.le_refl _
      · exact Nat.zero_le _
    omega

theorem mask_sound {s s' : St} {a : Act} {cs : List Frame} {w : World} {HV : List (List Value)} {lv : List LV} (h : Good B s a cs w I μ HV lv) {live : Option Nat} (hm : maskSt live s = some s') :
    ∃ lv', Good B s' a cs w I μ HV lv' := by
  unfold maskSt at hm
  split at hm
  · simp only [Option.some.injEq] at hm; subst hm; exact ⟨lv, h⟩
  · rename_i m
    split at hm
    · rename_i hall
      simp only [Option.some.injEq] at hm; subst hm
      refine ⟨maskLv m 0 lv, ⟨⟨h.inv.h, ⟨by rw [maskTmps_length]; exact h.inv.tms.1, ?_⟩, ?_, by rw [maskLv_length, maskLh_length]; exact h.inv.ll, ?_, ?_⟩, h.df, h.rm, h.dk, h.eff, ?_, h.mu⟩⟩
      · intro i v x hv hx
        have hx0 := hx
        rw [maskTmps_get] at hx
        cases hy : s.tmps[i]? with
        | none => simp [hy] at hx
        | some y =>
          simp only [hy, Option.map_some, Option.some.injEq] at hx
          by_cases hb : m.testBit (0 + i) = true
          · rw [if_pos hb] at hx; subst hx
            have h1 := h.inv.tms.2 i v y hv hy
            cases y with
            | lp t g off =>
              obtain ⟨g', cs1, b1, ws1, e1, e2, e3, e4⟩ := h1
              have hl := List.all_eq_true.1 hall _ (List.mem_of_getElem? hx0)
              simp only [lpIn] at hl
              exact ⟨g', cs1, b1, ws1, by rw [maskLh_get, e1]; simp [hl], by rw [maskLv_get, e2]; simp [hl], e3, e4⟩
            | _ => exact h1
          · rw [if_neg hb] at hx; subst hx; exact .any _ .nil
      · intro i v x hv hx
        rw [maskTmps_get] at hx
        cases hy : s.tmps[i]? with
        | none => simp [hy] at hx
        | some y =>
          simp only [hy, Option.map_some, Option.some.injEq] at hx
          by_cases hb : m.testBit (0 + i) = true
          · rw [if_pos hb] at hx; subst hx; exact h.inv.sp i v y hv hy
          · rw [if_neg hb] at hx; subst hx; intro _ _ _ _ _ _ _ h; cases h
      · intro t d c hd hc
        rw [maskLv_get] at hd
        rw [maskLh_get] at hc
        cases hd0 : lv[t]? with
        | none => simp [hd0] at hd
        | some d0 =>
          cases hc0 : s.lh[t]? with
          | none => simp [hc0] at hc
          | some c0 =>
            simp only [hd0, hc0, Option.map_some, Option.some.injEq] at hd hc
            by_cases hb : m.testBit (0 + t) = true
            · rw [if_pos hb] at hd hc; subst hd hc; exact h.inv.lo t d0 c0 hd0 hc0
            · rw [if_neg hb] at hd hc; subst hd hc; trivial
      · intro b
        have h1 := h.inv.one b
        have h2 := tcs_mask_le m b a.tmps.toList s.tmps 0
        have h3 := lc_mask_le m b lv s.lh 0
        simp only
        omega
      · intro b hb
        have h2 := tcs_mask_le m b a.tmps.toList s.tmps 0
        have h3 := lc_mask_le m b lv s.lh 0
        refine h.tk b ?_
        unfold tok at *
        simp only at hb
        omega
    · cases hm

theorem drew_good {s : St} {a : Act} {cs : List Frame} {w : World} {HV : List (List Value)} {lv : List LV} (h : Good B s a cs w I μ HV lv) : Good B s a cs { w with drawn := w.drawn + 1 } I μ HV lv := by
  have he : Eff I w (fun _ => False) I { w with drawn := w.drawn + 1 } := ⟨.refl I, fun _ _ _ h => .inl h, fun _ _ _ => rfl, Nat.le_refl _, rfl, rfl, rfl⟩
  have hI : ImmOk I { w with drawn := w.drawn + 1 } := fun b o v hv => h.inv.h.imm b o v hv
  exact ⟨h.inv.eff he hI (fun _ h => h.elim), h.df, h.rm, h.dk, h.eff.trans he (fun _ h => h.elim), h.tk, h.mu⟩

/-- Where code leads. -/
def CRel (P : Program) (B : Base) (x : AX) (s' : St) (m : Machine) (b : Frame) (k : List Item) : Prop :=
  match x with
  | .normal => ∃ a' cs' w' I' μ' HV' lv', Good B s' a' cs' w' I' μ' HV' lv' ∧ Steps P m (lone (b.at a' k) cs' w')
  | .exit id => ∃ a' cs' w' I' μ' HV' lv', Good B s' a' cs' w' I' μ' HV' lv' ∧ ∀ k', exitTo id k = some k' → Steps P m (lone (b.at a' k') cs' w')
  | .ret => ∃ a' cs' w' I' μ' HV' lv' todo, Good B s' a' cs' w' I' μ' HV' lv' ∧ Steps P m (lone { b.at a' todo with mode := .returning } cs' w')
  | .panic v => Panics P B v s' m b k

theorem CRel.of_steps {x : AX} {s' : St} {m m1 : Machine} {b : Frame} {k : List Item} (hs : Steps P m m1) (h : CRel P B x s' m1 b k) : CRel P B x s' m b k := by
  cases x with
  | normal => obtain ⟨a', cs', w', I', μ', HV', lv', h1, h2⟩ := h; exact ⟨a', cs', w', I', μ', HV', lv', h1, hs.trans h2⟩
  | exit id => obtain ⟨a', cs', w', I', μ', HV', lv', h1, h2⟩ := h; exact ⟨a', cs', w', I', μ', HV', lv', h1, fun k' hk => hs.trans (h2 k' hk)⟩
  | ret => obtain ⟨a', cs', w', I', μ', HV', lv', todo, h1, h2⟩ := h; exact ⟨a', cs', w', I', μ', HV', lv', todo, h1, hs.trans h2⟩
  | panic v => obtain ⟨a', cs', w', I', μ', HV', lv', ch, h1, h2, h3⟩ := h; exact ⟨a', cs', w', I', μ', HV', lv', ch, h1, h2, .of_steps hs h3⟩

/-- An item that no exit looks at is passed by. -/
theorem CRel.pass {x : AX} {s' : St} {m : Machine} {b : Frame} {it : Item} {k : List Item} (hi : ∀ id k', exitTo id k = some k' → exitTo id (it :: k) = some k') (hx : x ≠ .normal) (h : CRel P B x s' m b (it :: k)) : CRel P B x s' m b k := by
  cases x with
  | normal => exact absurd rfl hx
  | exit id => obtain ⟨a', cs', w', I', μ', HV', lv', h1, h2⟩ := h; exact ⟨a', cs', w', I', μ', HV', lv', h1, fun k' hk => h2 k' (hi id k' hk)⟩
  | ret => exact h
  | panic v => obtain ⟨a', cs', w', I', μ', HV', lv', ch, h1, h2, h3⟩ := h; exact ⟨a', cs', w', I', μ', HV', lv', ch, h1, h2, h3⟩

theorem crel_ops {x : AX} {s' : St} {m : Machine} {b : Frame} {ops : Array Oper} {k : List Item} (h : (x = .normal ∧ Goes P B s' m b ops [] k) ∨ ∃ v, x = .panic v ∧ Panics P B v s' m b k) : CRel P B x s' m b k := by
  rcases h with ⟨rfl, a', cs', w', I', μ', HV', lv', h1, h2⟩ | ⟨v, rfl, h⟩
  · exact ⟨a', cs', w', I', μ', HV', lv', h1, h2.trans (.one step_region_end)⟩
  · exact h

theorem code_sound (hcall : CallSound P call) (hmix : P.follows .mixedOrders = true) {k : Nat} {f : FuncId} : ∀ (c : Code) (bid : Nat) {s : St} {x : AX} {s' : St}, acode P cfg call k f bid c s = some (x, s') →
    ∀ {a : Act} {cs : List Frame} {w : World} {I : Mem} {μ : List Nat} {HV : List (List Value)} {lv : List LV}, Good B s a cs w I μ HV lv → ∀ {b : Frame} {kk : List Item}, (B.dk = true → b.kind = .deferred) →
      CRel P B x s' (lone (b.at a (.code c :: kk)) cs w) b kk := by
  intro c
  induction c with
  | skip =>
    intro bid s x s' h a cs w I μ HV lv hg b kk hb
    simp only [acode, Option.some.injEq, Prod.mk.injEq] at h
    obtain ⟨rfl, rfl⟩ := h
    exact ⟨a, cs, w, I, μ, HV, lv, hg, .one step_skip⟩
  | region id ops draw =>
    intro bid s x s' h a cs w I μ HV lv hg b kk hb
    cases draw with
    | false =>
      simp only [acode] at h
      exact .of_steps (.one step_region) (crel_ops (ops_sound hcall _ h hg hb))
    | true =>
      simp only [acode] at h
      split at h
      · rename_i s1 hd
        simp only [Option.some.injEq, Prod.mk.injEq] at h
        obtain ⟨rfl, rfl⟩ := h
        have ho := order_sound hd (w.tape w.drawn (.order b.fn id))
        refine .of_steps (.one step_region_draw) (crel_ops (ops := ops) ?_)
        rw [show Region.schedule (P.follows .mixedOrders) ops (w.tape w.drawn (.order b.fn id)) = Region.linearise .any ops (w.tape w.drawn (.order b.fn id)) by simp [Region.schedule, hmix]]
        exact ops_sound hcall _ ho (drew_good hg) hb
      · cases h
  | seq x y ihx ihy =>
    intro bid s r s' h a cs w I μ HV lv hg b kk hb
    simp only [acode] at h
    split at h
    · rename_i s1 h1
      obtain ⟨a1, cs1, w1, I1, μ1, HV1, lv1, g1, st1⟩ := ihx bid h1 hg (b := b) (kk := .code y :: kk) hb
      exact .of_steps (.head step_seq st1) (ihy bid h g1 hb)
    · rename_i r1 hne
      subst_vars
      have := ihx bid h hg (b := b) (kk := .code y :: kk) hb
      refine .of_steps (.one step_seq) (this.pass (fun id k' hk => by simpa [exitTo] using hk) ?_)
      rintro rfl
      exact hne _ h
  | cond c x y ihx ihy =>
    intro bid s r s' h a cs w I μ HV lv hg b kk hb
    simp only [acode] at h
    have hev : a.eval c = cevals a.tmps.toList c := eval_cevals a c
    have hrep := aeval_rep hg.inv.tms c
    split at h
    · rename_i e
      rw [e] at hrep
      have : a.eval c = .bool true := by rw [hev]; exact toVal_trep hrep rfl
      exact .of_steps (.one (step_cond this)) (ihx bid h hg hb)
    · rename_i e
      rw [e] at hrep
      have : a.eval c = .bool false := by rw [hev]; exact toVal_trep hrep rfl
      exact .of_steps (.one (step_cond this)) (ihy bid h hg hb)
    · cases h
  | block id x ih =>
    intro bid s r s' h a cs w I μ HV lv hg b kk hb
    simp only [acode] at h
    have key : ∀ r1 s1, acode P cfg call k f id x s = some (r1, s1) → CRel P B r1 s1 (lone (b.at a (.code x :: .inBlock id :: kk)) cs w) b (.inBlock id :: kk) := fun r1 s1 h1 => ih id h1 hg hb
    split at h
    · rename_i id' s1 h1
      have := key _ _ h1
      obtain ⟨a1, cs1, w1, I1, μ1, HV1, lv1, g1, st1⟩ := this
      split at h
      · rename_i e
        subst e
        simp only [Option.some.injEq, Prod.mk.injEq] at h
        obtain ⟨rfl, rfl⟩ := h
        exact ⟨a1, cs1, w1, I1, μ1, HV1, lv1, g1, .head step_block (st1 kk (by simp [exitTo]))⟩
      · rename_i e
        simp only [Option.some.injEq, Prod.mk.injEq] at h
        obtain ⟨rfl, rfl⟩ := h
        refine ⟨a1, cs1, w1, I1, μ1, HV1, lv1, g1, fun k' hk => .head step_block (st1 k' ?_)⟩
        have : (id == id') = false := by simp; exact fun h => e h.symm
        simp [exitTo, this, hk]
    · rename_i hne
      have := key _ _ h
      refine .of_steps (.one step_block) ?_
      cases r with
      | normal =>
        obtain ⟨a1, cs1, w1, I1, μ1, HV1, lv1, g1, st1⟩ := this
        exact ⟨a1, cs1, w1, I1, μ1, HV1, lv1, g1, st1.trans (.one step_inBlock)⟩
      | exit id' => exact absurd h (hne id' s')
      | ret => exact this
      | panic v => exact this
  | loop x ih =>
    intro bid s r s' h a cs w I μ HV lv hg b kk hb
    simp only [acode] at h
    refine .of_steps (.one step_loop) ?_
    have key : ∀ (n : Nat) {s : St} {r : AX} {s' : St}, aloop (liveAt (cfg f).live bid) (acode P cfg call k f bid x) n s = some (r, s') → ∀ {a : Act} {cs : List Frame} {w : World} {I : Mem} {μ : List Nat} {HV : List (List Value)} {lv : List LV},
        Good B s a cs w I μ HV lv → CRel P B r s' (lone (b.at a (.code x :: .inLoop x :: kk)) cs w) b kk := by
      intro n
      induction n with
      | zero => intro s r s' h; simp [aloop] at h
      | succ n ihn =>
        intro s r s' h a cs w I μ HV lv hg
        simp only [aloop] at h
        split at h
        · cases h
        · rename_i s0 hm
          obtain ⟨lv0, hg0⟩ := mask_sound hg hm
          split at h
          · rename_i s1 h1
            obtain ⟨a1, cs1, w1, I1, μ1, HV1, lv1, g1, st1⟩ := ih bid h1 hg0 (b := b) (kk := .inLoop x :: kk) hb
            exact .of_steps (st1.trans (.one step_inLoop)) (ihn h g1)
          · rename_i hne
            have := ih bid h hg0 (b := b) (kk := .inLoop x :: kk) hb
            refine this.pass (fun id k' hk => by simpa [exitTo] using hk) ?_
            rintro rfl
            exact hne _ h
    exact key k h hg
  | exit id =>
    intro bid s x s' h a cs w I μ HV lv hg b kk hb
    simp only [acode, Option.some.injEq, Prod.mk.injEq] at h
    obtain ⟨rfl, rfl⟩ := h
    exact ⟨a, cs, w, I, μ, HV, lv, hg, fun k' hk => .one (step_exit hk)⟩
  | ret =>
    intro bid s x s' h a cs w I μ HV lv hg b kk hb
    simp only [acode, Option.some.injEq, Prod.mk.injEq] at h
    obtain ⟨rfl, rfl⟩ := h
    exact ⟨a, cs, w, I, μ, HV, lv, _, hg, .one step_ret⟩
  | rangeFunc => intro bid s x s' h; simp [acode] at h
  | scope => intro bid s x s' h; simp [acode] at h
  | label => intro bid s x s' h; simp [acode] at h
  | goto => intro bid s x s' h; simp [acode] at h
  | refuse => intro bid s x s' h; simp [acode] at h
end
end Go.Eng
