/-
  THE ENGINE, part 2: how abstract values stand to the model's (RepL), which blocks are one's own (counted), what a step may turn (Eff).
-/
import Derived.Test.YtnohjjhgdkpgcaaDoorE1
set_option linter.unusedVariables false
set_option linter.unusedSimpArgs false
namespace Go.Eng


/-! ### values -/

/-- Memory that nobody writes. -/
abbrev Mem := Nat → Nat → Option Value

def ReadAt (I : Mem) (b o : Nat) (ws : List Value) : Prop := ∀ (i : Nat) v, ws[i]? = some v → I b (o + i) = some v

def OneCells (vs : List Value) : Prop := ∀ v ∈ vs, v.oneCell' = true

inductive RepL (I : Mem) (μ : List Nat) : List Value → List AV → Prop
  | nil : RepL I μ [] []
  | any {vs as} (v : Value) : RepL I μ vs as → RepL I μ (v :: vs) (.any :: as)
  | val {vs as} (v : Value) : RepL I μ vs as → RepL I μ (v :: vs) (.val v :: as)
  | slice0 {vs as} (sz : Nat) (own : Own) : RepL I μ vs as → RepL I μ (.slice none 0 0 :: vs) (.slice sz [] own :: as)
  | slice {vs as} (b o cap sz : Nat) (ws : List Value) (rows : List (List AV)) (own : Own) : ReadAt I b o ws → RepL I μ ws rows.flatten → (∀ r ∈ rows, r.length = sz) →
      rows.length ≤ cap → (own = .full → cap = rows.length) → RepL I μ vs as → RepL I μ (.slice (some ⟨b, o, none⟩) rows.length cap :: vs) (.slice sz rows own :: as)
  | slice1 {vs as} (a : Addr) (cap sz : Nat) (own : Own) : own = .no ∨ (own = .full ∧ cap = 0) → RepL I μ vs as → RepL I μ (.slice (some a) 0 cap :: vs) (.slice sz [] own :: as)
  | ref {vs as} (b o : Nat) (ws : List Value) (cs : List AV) : ReadAt I b o ws → RepL I μ ws cs → RepL I μ vs as → RepL I μ (.pointer (some ⟨b, o, none⟩) :: vs) (.ref cs :: as)
  | ptr {vs as} (id off b : Nat) : μ[id]? = some b → RepL I μ vs as → RepL I μ (.pointer (some ⟨b, off, none⟩) :: vs) (.ptr id off :: as)
  | func {vs as} (fn : Fn) (f c : Array Value) (af ac : List AV) : RepL I μ f.toList af → RepL I μ c.toList ac → RepL I μ vs as → RepL I μ (.func fn f c :: vs) (.func fn af ac :: as)
  | iface {vs as} (t : TypeId) (v : Value) (a : AV) : RepL I μ [v] [a] → RepL I μ vs as → RepL I μ (.iface t v :: vs) (.iface t a :: as)
  | agg {vs as} (cs : Array Value) (acs : List AV) : OneCells cs.toList → RepL I μ cs.toList acs → RepL I μ vs as → RepL I μ (.agg cs :: vs) (.agg acs :: as)
  | tuple {vs as} (ws : Array Value) (aws : List AV) : RepL I μ ws.toList aws → RepL I μ vs as → RepL I μ (.tuple ws :: vs) (.tuple aws :: as)

abbrev Rep (I : Mem) (μ : List Nat) (v : Value) (a : AV) : Prop := RepL I μ [v] [a]

def LeM (I J : Mem) : Prop := ∀ b o v, I b o = some v → J b o = some v
def LeN (μ ν : List Nat) : Prop := ∀ (i : Nat) b, μ[i]? = some b → ν[i]? = some b
theorem LeM.refl (I : Mem) : LeM I I := fun _ _ _ h => h
theorem LeN.refl (μ : List Nat) : LeN μ μ := fun _ _ h => h
theorem LeM.trans {I J K : Mem} (h : LeM I J) (k : LeM J K) : LeM I K := fun b o v x => k b o v (h b o v x)
theorem LeN.trans {I J K : List Nat} (h : LeN I J) (k : LeN J K) : LeN I K := fun b o x => k b o (h b o x)
theorem LeN.append (μ ν : List Nat) : LeN μ (μ ++ ν) := fun i b h => by
  rw [List.getElem?_append_left (List.getElem?_eq_some_iff.1 h).1]; exact h

theorem ReadAt.mono {I J : Mem} (h : LeM I J) {b o : Nat} {ws : List Value} (r : ReadAt I b o ws) : ReadAt J b o ws := fun i v hv => h _ _ _ (r i v hv)

theorem RepL.mono {I J : Mem} {μ ν : List Nat} (hI : LeM I J) (hμ : LeN μ ν) {vs : List Value} {as : List AV} (h : RepL I μ vs as) : RepL J ν vs as := by
  induction h with
  | nil => exact .nil
  | any v _ ih => exact .any v ih
  | val v _ ih => exact .val v ih
  | slice0 sz own _ ih => exact .slice0 sz own ih
  | slice b o cap sz ws rows own hr _ hl hc hf _ ih1 ih2 => exact .slice b o cap sz ws rows own (hr.mono hI) ih1 hl hc hf ih2
  | slice1 a cap sz own ho _ ih => exact .slice1 a cap sz own ho ih
  | ref b o ws cs hr _ _ ih1 ih2 => exact .ref b o ws cs (hr.mono hI) ih1 ih2
  | ptr id off b hb _ ih => exact .ptr id off b (hμ _ _ hb) ih
  | func fn f c af ac _ _ _ ih1 ih2 ih3 => exact .func fn f c af ac ih1 ih2 ih3
  | iface t v a _ _ ih1 ih2 => exact .iface t v a ih1 ih2
  | agg cs acs ho _ _ ih1 ih2 => exact .agg cs acs ho ih1 ih2
  | tuple ws aws _ _ ih1 ih2 => exact .tuple ws aws ih1 ih2

theorem RepL.length {I : Mem} {μ : List Nat} {vs : List Value} {as : List AV} (h : RepL I μ vs as) : vs.length = as.length := by
  induction h <;> simp_all

theorem RepL.cons {I : Mem} {μ : List Nat} {v : Value} {a : AV} {vs : List Value} {as : List AV} (h : Rep I μ v a) (k : RepL I μ vs as) : RepL I μ (v :: vs) (a :: as) := by
  cases h with
  | any v _ => exact .any v k
  | val v _ => exact .val v k
  | slice0 sz own _ => exact .slice0 sz own k
  | slice b o cap sz ws rows own hr h2 hl hc hf _ => exact .slice b o cap sz ws rows own hr h2 hl hc hf k
  | slice1 a cap sz own ho _ => exact .slice1 a cap sz own ho k
  | ref b o ws cs hr h2 _ => exact .ref b o ws cs hr h2 k
  | ptr id off b hb _ => exact .ptr id off b hb k
  | func fn f c af ac h1 h2 _ => exact .func fn f c af ac h1 h2 k
  | iface t v a h1 _ => exact .iface t v a h1 k
  | agg cs acs ho h1 _ => exact .agg cs acs ho h1 k
  | tuple ws aws h1 _ => exact .tuple ws aws h1 k

theorem RepL.uncons {I : Mem} {μ : List Nat} {v : Value} {a : AV} {vs : List Value} {as : List AV} (h : RepL I μ (v :: vs) (a :: as)) : Rep I μ v a ∧ RepL I μ vs as := by
  cases h with
  | any v k => exact ⟨.any v .nil, k⟩
  | val v k => exact ⟨.val v .nil, k⟩
  | slice0 sz own k => exact ⟨.slice0 sz own .nil, k⟩
  | slice b o cap sz ws rows own hr h2 hl hc hf k => exact ⟨.slice b o cap sz ws rows own hr h2 hl hc hf .nil, k⟩
  | slice1 a cap sz own ho k => exact ⟨.slice1 a cap sz own ho .nil, k⟩
  | ref b o ws cs hr h2 k => exact ⟨.ref b o ws cs hr h2 .nil, k⟩
  | ptr id off b hb k => exact ⟨.ptr id off b hb .nil, k⟩
  | func fn f c af ac h1 h2 k => exact ⟨.func fn f c af ac h1 h2 .nil, k⟩
  | iface t v a h1 k => exact ⟨.iface t v a h1 .nil, k⟩
  | agg cs acs ho h1 k => exact ⟨.agg cs acs ho h1 .nil, k⟩
  | tuple ws aws h1 k => exact ⟨.tuple ws aws h1 .nil, k⟩

section
variable {I : Mem} {μ : List Nat}

theorem RepL.append {vs ws : List Value} {as bs : List AV} (h : RepL I μ vs as) (k : RepL I μ ws bs) : RepL I μ (vs ++ ws) (as ++ bs) := by
  induction vs generalizing as with
  | nil => cases h; exact k
  | cons v vs ih =>
    cases as with
    | nil => cases h
    | cons a as => obtain ⟨h1, h2⟩ := h.uncons; exact .cons h1 (ih h2)

theorem RepL.get {vs : List Value} {as : List AV} (h : RepL I μ vs as) {i : Nat} {v : Value} {a : AV} (hv : vs[i]? = some v) (ha : as[i]? = some a) : Rep I μ v a := by
  induction vs generalizing as i with
  | nil => simp at hv
  | cons w vs ih =>
    cases as with
    | nil => cases h
    | cons b as =>
      obtain ⟨h1, h2⟩ := h.uncons
      cases i with
      | zero => simp at hv ha; subst hv ha; exact h1
      | succ i => exact ih h2 (by simpa using hv) (by simpa using ha)

theorem RepL.get' {vs : List Value} {as : List AV} (h : RepL I μ vs as) {i : Nat} {a : AV} (ha : as[i]? = some a) : ∃ v, vs[i]? = some v ∧ Rep I μ v a := by
  have hi := (List.getElem?_eq_some_iff.1 ha).1
  rw [← h.length] at hi
  exact ⟨vs[i], List.getElem?_eq_getElem hi, h.get (List.getElem?_eq_getElem hi) ha⟩

theorem RepL.of_get {vs : List Value} {as : List AV} (hl : vs.length = as.length) (h : ∀ (i : Nat) v a, vs[i]? = some v → as[i]? = some a → Rep I μ v a) : RepL I μ vs as := by
  induction vs generalizing as with
  | nil => cases as with
    | nil => exact .nil
    | cons a as => simp at hl
  | cons v vs ih =>
    cases as with
    | nil => simp at hl
    | cons a as => exact .cons (h 0 v a rfl rfl) (ih (by simpa using hl) fun i w b hw hb => h (i + 1) w b (by simpa using hw) (by simpa using hb))

theorem RepL.take {vs : List Value} {as : List AV} (h : RepL I μ vs as) (n : Nat) : RepL I μ (vs.take n) (as.take n) := by
  refine .of_get (by simp [h.length]) fun i v a hv ha => ?_
  rw [List.getElem?_take] at hv ha
  split at hv
  · rename_i hi; rw [if_pos hi] at ha; exact h.get hv ha
  · simp at hv

theorem RepL.drop {vs : List Value} {as : List AV} (h : RepL I μ vs as) (n : Nat) : RepL I μ (vs.drop n) (as.drop n) := by
  refine .of_get (by simp [h.length]) fun i v a hv ha => ?_
  rw [List.getElem?_drop] at hv ha
  exact h.get hv ha

theorem RepL.set {vs : List Value} {as : List AV} (h : RepL I μ vs as) (i : Nat) {v : Value} {a : AV} (k : Rep I μ v a) : RepL I μ (vs.set i v) (as.set i a) := by
  refine .of_get (by simp [h.length]) fun j w b hw hb => ?_
  rw [List.getElem?_set] at hw hb
  by_cases hij : i = j
  · rw [if_pos hij] at hw hb
    split at hw
    · rename_i hl; rw [if_pos (by rw [← h.length]; exact hl)] at hb; cases hw; cases hb; exact k
    · simp at hw
  · rw [if_neg hij] at hw hb; exact h.get hw hb

theorem Rep.dis {v : Value} {a : AV} (h : Rep I μ v a) : Rep I μ v a.dis := by
  unfold AV.dis
  split
  · rename_i sz rows
    cases h with
    | slice0 sz own _ => exact .slice0 sz _ .nil
    | slice b o cap sz ws rows own hr h2 hl hc hf _ => exact .slice b o cap sz ws rows .no hr h2 hl hc (fun h => by cases h) .nil
    | slice1 a cap sz own ho _ => rcases ho with h | ⟨h, _⟩ <;> cases h
  · exact h

theorem RepL.dis {vs : List Value} {as : List AV} (h : RepL I μ vs as) : RepL I μ vs (as.map AV.dis) := by
  refine .of_get (by simp [h.length]) fun i v a hv ha => ?_
  rw [List.getElem?_map] at ha
  cases hb : as[i]? with
  | none => simp [hb] at ha
  | some b => simp [hb] at ha; subst ha; exact (h.get hv hb).dis

theorem RepL.vals (vs : List Value) : RepL I μ vs (vs.map .val) := by
  induction vs with
  | nil => exact .nil
  | cons v vs ih => exact .val v ih

theorem Rep.ofCell (v : Value) : Rep I μ v (ofCell v) := by
  unfold Eng.ofCell
  split
  · exact .slice0 0 .full .nil
  · exact .func _ _ _ _ _ (.vals _) (.vals _) .nil
  · exact .val _ .nil

theorem RepL.ofCells (vs : List Value) : RepL I μ vs (vs.map Eng.ofCell) := by
  induction vs with
  | nil => exact .nil
  | cons v vs ih => exact .cons (.ofCell v) ih

theorem Rep.ofVal (v : Value) : Rep I μ v (ofVal v) := by
  unfold Eng.ofVal
  split
  · rename_i cs
    split
    · rename_i h; exact .agg cs _ (fun v hv => List.all_eq_true.1 h v hv) (.ofCells _) .nil
    · exact .val _ .nil
  · exact .ofCell v

theorem cellsVal_rep {vs ws : List Value} {as : List AV} (h : RepL I μ vs as) (hc : cellsVal as = some ws) : vs = ws := by
  induction vs generalizing as ws with
  | nil => cases h; simp [cellsVal] at hc; exact hc.symm
  | cons v vs ih =>
    cases as with
    | nil => cases h
    | cons a as =>
      obtain ⟨h1, h2⟩ := h.uncons
      cases a <;> simp [cellsVal] at hc
      obtain ⟨l, hl, rfl⟩ := hc
      cases h1
      rw [ih h2 hl]

theorem toVal_rep {v w : Value} {a : AV} (h : Rep I μ v a) (ha : a.toVal = some w) : v = w := by
  cases h with
  | val v _ => simpa [AV.toVal] using ha
  | agg cs acs ho h1 _ =>
    simp only [AV.toVal, Option.map_eq_some_iff] at ha
    obtain ⟨l, hl, rfl⟩ := ha
    have := cellsVal_rep h1 hl
    rw [← this]
  | iface t v a h1 _ =>
    cases h1 <;> simp [AV.toVal] at ha
    exact ha
  | _ => simp [AV.toVal] at ha

theorem slice_inv {v : Value} {sz : Nat} {rows : List (List AV)} {own : Own} (h : Rep I μ v (.slice sz rows own)) : (rows = [] ∧ v = .slice none 0 0) ∨
    (∃ b o cap ws, v = .slice (some ⟨b, o, none⟩) rows.length cap ∧ ReadAt I b o ws ∧ RepL I μ ws rows.flatten ∧ (∀ r ∈ rows, r.length = sz) ∧ rows.length ≤ cap ∧ (own = .full → cap = rows.length)) ∨
    (rows = [] ∧ ∃ a cap, v = .slice (some a) 0 cap ∧ (own = .no ∨ (own = .full ∧ cap = 0))) := by
  cases h with
  | slice0 => exact .inl ⟨rfl, rfl⟩
  | slice b o cap sz ws rows own hr h2 hl hc hf _ => exact .inr (.inl ⟨b, o, cap, ws, rfl, hr, h2, hl, hc, hf⟩)
  | slice1 a cap sz own ho _ => exact .inr (.inr ⟨rfl, a, cap, rfl, ho⟩)

/-- What lies in memory of a value: its cells. -/
theorem cells_rep {v : Value} {a : AV} {cs : List AV} (h : Rep I μ v a) (ha : a.cells = some cs) : RepL I μ v.cells.toList cs ∧ OneCells v.cells.toList := by
  cases h with
  | any => simp [AV.cells] at ha
  | val v _ =>
    cases v <;> simp [AV.cells] at ha <;> subst ha <;> exact ⟨.val _ .nil, fun w hw => by simp [Value.cells] at hw; subst hw; rfl⟩
  | slice0 sz own _ => simp [AV.cells] at ha; subst ha; exact ⟨.slice0 _ _ .nil, fun w hw => by simp [Value.cells] at hw; subst hw; rfl⟩
  | slice b o cap sz ws rows own hr h2 hl hc hf _ => simp [AV.cells] at ha; subst ha; exact ⟨.slice _ _ _ _ ws _ _ hr h2 hl hc hf .nil, fun w hw => by simp [Value.cells] at hw; subst hw; rfl⟩
  | slice1 a cap sz own ho _ => simp [AV.cells] at ha; subst ha; exact ⟨.slice1 _ _ _ _ ho .nil, fun w hw => by simp [Value.cells] at hw; subst hw; rfl⟩
  | ref b o ws cs hr h2 _ => simp [AV.cells] at ha; subst ha; exact ⟨.ref _ _ ws _ hr h2 .nil, fun w hw => by simp [Value.cells] at hw; subst hw; rfl⟩
  | ptr id off b hb _ => simp [AV.cells] at ha; subst ha; exact ⟨.ptr _ _ _ hb .nil, fun w hw => by simp [Value.cells] at hw; subst hw; rfl⟩
  | func fn f c af ac h1 h2 _ => simp [AV.cells] at ha; subst ha; exact ⟨.func _ _ _ _ _ h1 h2 .nil, fun w hw => by simp [Value.cells] at hw; subst hw; rfl⟩
  | iface t v a h1 _ => simp [AV.cells] at ha; subst ha; exact ⟨.iface _ _ _ h1 .nil, fun w hw => by simp [Value.cells] at hw; subst hw; rfl⟩
  | agg cs acs ho h1 _ => simp [AV.cells] at ha; subst ha; exact ⟨h1, ho⟩
  | tuple => simp [AV.cells] at ha
end

/-! ### counting -/

def zsum {α β : Type} (f : α → β → Nat) : List α → List β → Nat
  | a :: l, b :: m => f a b + zsum f l m
  | _, _ => 0

theorem zsum_set {α β : Type} (f : α → β → Nat) {l : List α} {m : List β} (hl : l.length = m.length) {i : Nat} {a a' : α} {b b' : β} (ha : l[i]? = some a) (hb : m[i]? = some b) :
    zsum f (l.set i a') (m.set i b') + f a b = zsum f l m + f a' b' := by
  induction l generalizing m i with
  | nil => simp at ha
  | cons x l ih =>
    cases m with
    | nil => simp at hl
    | cons y m =>
      cases i with
      | zero => simp at ha hb; subst ha hb; simp [zsum]; omega
      | succ i =>
        have := ih (m := m) (by simpa using hl) (i := i) (by simpa using ha) (by simpa using hb)
        simp only [List.set_cons_succ, zsum]; omega

theorem zsum_append {α β : Type} (f : α → β → Nat) {l l' : List α} {m m' : List β} (hl : l.length = m.length) : zsum f (l ++ l') (m ++ m') = zsum f l m + zsum f l' m' := by
  induction l generalizing m with
  | nil => cases m with
    | nil => simp [zsum]
    | cons => simp at hl
  | cons x l ih =>
    cases m with
    | nil => simp at hl
    | cons y m => simp only [List.cons_append, zsum]; rw [ih (by simpa using hl)]; omega

theorem zsum_get {α β : Type} (f : α → β → Nat) {l : List α} {m : List β} {i : Nat} {a : α} {b : β} (ha : l[i]? = some a) (hb : m[i]? = some b) : f a b ≤ zsum f l m := by
  induction l generalizing m i with
  | nil => simp at ha
  | cons x l ih =>
    cases m with
    | nil => simp at hb
    | cons y m =>
      cases i with
      | zero => simp at ha hb; subst ha hb; simp [zsum]
      | succ i => have := ih (m := m) (i := i) (by simpa using ha) (by simpa using hb); simp only [zsum]; omega

theorem zsum_pos {α β : Type} (f : α → β → Nat) {l : List α} {m : List β} (h : 0 < zsum f l m) : ∃ (i : Nat) (a : α) (b : β), l[i]? = some a ∧ m[i]? = some b ∧ 0 < f a b := by
  induction l generalizing m with
  | nil => simp [zsum] at h
  | cons x l ih =>
    cases m with
    | nil => simp [zsum] at h
    | cons y m =>
      by_cases hx : 0 < f x y
      · exact ⟨0, x, y, rfl, rfl, hx⟩
      · obtain ⟨i, a, b, ha, hb, hf⟩ := ih (m := m) (by simp only [zsum] at h; omega)
        exact ⟨i + 1, a, b, by simpa using ha, by simpa using hb, hf⟩

theorem zsum_mono {α β : Type} {f g : α → β → Nat} {l : List α} {m : List β} (h : ∀ (i : Nat) a b, l[i]? = some a → m[i]? = some b → f a b ≤ g a b) : zsum f l m ≤ zsum g l m := by
  induction l generalizing m with
  | nil => simp [zsum]
  | cons x l ih =>
    cases m with
    | nil => simp [zsum]
    | cons y m =>
      have h0 := h 0 x y rfl rfl
      have := ih (m := m) fun i a b ha hb => h (i + 1) a b (by simpa using ha) (by simpa using hb)
      simp only [zsum]; omega

/-- Is a block the own one of a value (its spare places)? -/
def tc (b : Nat) : Value → AV → Nat
  | .slice (some a) _ _, .slice _ _ .yes => if a.block = b then 1 else 0
  | _, _ => 0

theorem tc_dis (b : Nat) (v : Value) (a : AV) : tc b v a.dis = 0 := by
  cases a with
  | slice sz rows own => cases own <;> cases v <;> simp [AV.dis, tc] <;> (rename_i x _ _; cases x <;> simp)
  | _ => cases v <;> simp [AV.dis, tc]

theorem tc_le (b : Nat) (v : Value) (a : AV) : tc b v a ≤ 1 := by
  unfold tc; split <;> (try split) <;> omega

/-- The blocks that values own. -/
abbrev tcs (b : Nat) (vs : List Value) (as : List AV) : Nat := zsum (tc b) vs as
abbrev tcss (b : Nat) (vs : List (List Value)) (as : List (List AV)) : Nat := zsum (tcs b) vs as

abbrev LV := Option (Nat × List Value)
def lc (b : Nat) : LV → Option LCell → Nat
  | some (b', ws), some (_, cs) => (if b' = b then 1 else 0) + tcs b ws cs
  | _, _ => 0

theorem tcs_dis (b : Nat) (vs : List Value) (as : List AV) : tcs b vs (as.map AV.dis) = 0 := by
  induction vs generalizing as with
  | nil => simp [zsum]
  | cons v vs ih => cases as with
    | nil => simp [zsum]
    | cons a as => simp only [List.map_cons, zsum, tc_dis, ih]

/-- Spare places that are one's own: they lie in a plain block, nobody reads them. -/
def SpareOk (I : Mem) (w : World) (v : Value) (a : AV) : Prop :=
  ∀ b o len cap sz rows, v = .slice (some ⟨b, o, none⟩) len cap → a = .slice sz rows .yes →
    (∃ c e, w.heap[b]? = some (.cells c e (0, 0)) ∧ o + cap * sz ≤ c.size) ∧ ∀ k, o + len * sz ≤ k → I b k = none

theorem SpareOk.dis (I : Mem) (w : World) (v : Value) (a : AV) : SpareOk I w v a.dis := by
  intro b o len cap sz rows hv ha
  unfold AV.dis at ha
  split at ha
  · cases ha
  · rename_i h; exact absurd ha (h _ _)

def AllSpare (I : Mem) (w : World) (vs : List Value) (as : List AV) : Prop := ∀ (i : Nat) v a, vs[i]? = some v → as[i]? = some a → SpareOk I w v a

/-- A step of the world: what it may turn: the blocks of A, and what it makes anew. -/
structure Eff (I : Mem) (w : World) (A : Nat → Prop) (J : Mem) (w' : World) : Prop where
  le : LeM I J
  fresh : ∀ b o v, J b o = some v → I b o = some v ∨ w.heap.size ≤ b ∨ A b
  keep : ∀ b, b < w.heap.size → ¬ A b → w'.heap[b]? = w.heap[b]?
  size : w.heap.size ≤ w'.heap.size
  os : w'.os = w.os
  tape : w'.tape = w.tape
  output : w'.output = w.output

theorem Eff.refl (I : Mem) (w : World) (A : Nat → Prop) : Eff I w A I w := ⟨.refl I, fun _ _ _ h => .inl h, fun _ _ _ => rfl, Nat.le_refl _, rfl, rfl, rfl⟩

theorem Eff.mono {I J : Mem} {w w' : World} {A B : Nat → Prop} (h : Eff I w A J w') (hAB : ∀ b, A b → B b) : Eff I w B J w' :=
  ⟨h.le, fun b o v hv => (h.fresh b o v hv).imp id (Or.imp id (hAB b)), fun b hb hn => h.keep b hb fun ha => hn (hAB b ha), h.size, h.os, h.tape, h.output⟩

theorem Eff.trans {I J K : Mem} {w w' w'' : World} {A B : Nat → Prop} (h : Eff I w A J w') (k : Eff J w' B K w'') (hB : ∀ b, B b → A b ∨ w.heap.size ≤ b) : Eff I w A K w'' :=
  ⟨h.le.trans k.le, fun b o v hv => by
      rcases k.fresh b o v hv with h1 | h1 | h1
      · exact h.fresh b o v h1
      · exact .inr (.inl (Nat.le_trans h.size h1))
      · rcases hB b h1 with h2 | h2
        · exact .inr (.inr h2)
        · exact .inr (.inl h2),
    fun b hb hn => by
      rw [k.keep b (Nat.lt_of_lt_of_le hb h.size) fun hBb => by rcases hB b hBb with h2 | h2; exact hn h2; omega]
      exact h.keep b hb hn,
    Nat.le_trans h.size k.size, k.os.trans h.os, k.tape.trans h.tape, k.output.trans h.output⟩

theorem Eff.spare {I J : Mem} {w w' : World} {A : Nat → Prop} (h : Eff I w A J w') {v : Value} {a : AV} (hs : SpareOk I w v a) (hn : ∀ b, A b → tc b v a = 0) : SpareOk J w' v a := by
  intro b o len cap sz rows hv ha
  obtain ⟨⟨c, e, hc, hl⟩, hI⟩ := hs b o len cap sz rows hv ha
  have hb : b < w.heap.size := (Array.getElem?_eq_some_iff.1 hc).1
  have hA : ¬ A b := fun hA => by have := hn b hA; subst hv ha; simp [tc] at this
  refine ⟨⟨c, e, by rw [h.keep b hb hA]; exact hc, hl⟩, fun k hk => ?_⟩
  cases hJ : J b k with
  | none => rfl
  | some v =>
    rcases h.fresh b k v hJ with h1 | h1 | h1
    · rw [hI k hk] at h1; cases h1
    · omega
    · exact absurd h1 hA

theorem Eff.none {I J : Mem} {w w' : World} {A : Nat → Prop} (h : Eff I w A J w') {b : Nat} (hb : b < w.heap.size) (hA : ¬ A b) (hI : ∀ o, I b o = Option.none) : ∀ o, J b o = Option.none := fun o => by
  cases hJ : J b o with
  | none => rfl
  | some v =>
    rcases h.fresh b o v hJ with h1 | h1 | h1
    · rw [hI o] at h1; cases h1
    · omega
    · exact absurd h1 hA

/-- Memory that nobody writes is in the world; each cell holds one value. -/
def ImmOk (I : Mem) (w : World) : Prop := ∀ b o v, I b o = some v → w.cell? ⟨b, o, none⟩ = some v ∧ v.oneCell' = true

theorem ImmOk.lt {I : Mem} {w : World} (h : ImmOk I w) {b o : Nat} {v : Value} (hv : I b o = some v) : b < w.heap.size := World.block_lt_of_cell? w _ (h b o v hv).1

theorem ReadAt.one {I : Mem} {w : World} (h : ImmOk I w) {b o : Nat} {ws : List Value} (r : ReadAt I b o ws) : OneCells ws := fun v hv => by
  obtain ⟨i, hi, rfl⟩ := List.mem_iff_getElem.1 hv
  exact (h _ _ _ (r i _ (List.getElem?_eq_getElem hi))).2
end Go.Eng
