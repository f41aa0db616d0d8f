/-
  THE ENGINE, part 29: plain data (CT): numbers, truth values, texts, lists of rows; what comes in is such data.
-/
import Derived.Test.YtnohjjhgdkpgcaaDoorE28
import Derived.Test.YtnohjjhgdkpgcaaDoorE18b
import Derived.ChangeArms
import Derived.ChangeSlices
import Derived.DataReads
set_option linter.unusedVariables false
set_option linter.unusedSimpArgs false
namespace Go.Eng

inductive CT where
  | int (k : IntKind) (n : Int)
  | bool (b : Bool)
  | str (s : ByteArray)
  | rows (sz : Nat) (l : List (List CT))
  deriving Inhabited

abbrev Row := List CT

mutual
def CT.av : CT → AV
  | .int k n => .val (.int k n)
  | .bool b => .val (.bool b)
  | .str s => .val (.string s)
  | .rows sz l => .slice sz (avss l) .no
def avs : List CT → List AV
  | [] => []
  | c :: l => c.av :: avs l
def avss : List (List CT) → List (List AV)
  | [] => []
  | r :: l => avs r :: avss l
end

theorem avs_map : ∀ l : List CT, avs l = l.map CT.av
  | [] => rfl
  | c :: l => by rw [avs, avs_map l]; rfl
theorem avss_map : ∀ l : List (List CT), avss l = l.map avs
  | [] => rfl
  | r :: l => by rw [avss, avss_map l]; rfl
theorem avss_len (l : List (List CT)) : (avss l).length = l.length := by rw [avss_map, List.length_map]
theorem avss_at {l : List (List CT)} {i : Nat} {r : List CT} (h : l[i]? = some r) : (avss l)[i]? = some (avs r) := by rw [avss_map, List.getElem?_map, h]; rfl
theorem avss_append (a b : List (List CT)) : avss (a ++ b) = avss a ++ avss b := by simp only [avss_map, List.map_append]
theorem avss_nil {l : List (List CT)} : avss l = [] ↔ l = [] := by rw [avss_map, List.map_eq_nil_iff]
theorem avss_isEmpty (l : List (List CT)) : (avss l).isEmpty = l.isEmpty := by cases l <;> rfl

theorem dis_av (c : CT) : c.av.dis = c.av := by cases c <;> rfl
theorem dis_avs (l : List CT) : (avs l).map AV.dis = avs l := by
  rw [avs_map, List.map_map]
  exact List.map_congr_left fun c _ => dis_av c
theorem dis_avss (l : List (List CT)) : (avss l).map (·.map AV.dis) = avss l := by
  rw [avss_map, List.map_map]
  exact List.map_congr_left fun r _ => dis_avs r

mutual
theorem low_av (n : Nat) : ∀ c : CT, c.av.low n = true
  | .int _ _ => rfl
  | .bool _ => rfl
  | .str _ => rfl
  | .rows _ l => by rw [CT.av, AV.low]; exact low_avss n l
theorem low_avs (n : Nat) : ∀ l : List CT, lows n (avs l) = true
  | [] => rfl
  | c :: l => by rw [avs, lows, low_av n c, low_avs n l]; rfl
theorem low_avss (n : Nat) : ∀ l : List (List CT), lowss n (avss l) = true
  | [] => rfl
  | r :: l => by rw [avss, lowss, low_avs n r, low_avss n l]; rfl
end

mutual
theorem ren_av (ρ : Nat → Nat) : ∀ c : CT, c.av.ren ρ = c.av
  | .int _ _ => rfl
  | .bool _ => rfl
  | .str _ => rfl
  | .rows _ l => by rw [CT.av, AV.ren, ren_avss ρ l]
theorem ren_avs (ρ : Nat → Nat) : ∀ l : List CT, rens ρ (avs l) = avs l
  | [] => rfl
  | c :: l => by rw [avs, rens, ren_av ρ c, ren_avs ρ l]
theorem ren_avss (ρ : Nat → Nat) : ∀ l : List (List CT), renss ρ (avss l) = avss l
  | [] => rfl
  | r :: l => by rw [avss, renss, ren_avs ρ r, ren_avss ρ l]
end

/-! ### types -/

mutual
inductive Has (P : Program) : TypeId → List CT → Prop
  | int {t : TypeId} {k : IntKind} {n : Int} : P.underlying t = some (.int k) → (Lit.int k n).wf = true → Has P t [.int k n]
  | bool {t : TypeId} {b : Bool} : P.underlying t = some .bool → Has P t [.bool b]
  | str {t : TypeId} {s : ByteArray} : P.underlying t = some .string → s.size ≤ maxLen → Has P t [.str s]
  | slice {t e : TypeId} {l : List (List CT)} : P.underlying t = some (.slice e) → l.length ≤ maxLen → (∀ r ∈ l, Has P e r) → (∀ r ∈ l, r.length = P.cellsOf e) → Has P t [.rows (P.cellsOf e) l]
  | struct {t : TypeId} {fs : Array Field} {l : List CT} : P.underlying t = some (.struct fs) → HasF P (fs.toList.map (·.type)) l → Has P t l
inductive HasF (P : Program) : List TypeId → List CT → Prop
  | nil : HasF P [] []
  | cons {t : TypeId} {ts : List TypeId} {a b : List CT} : Has P t a → HasF P ts b → HasF P (t :: ts) (a ++ b)
end

section
variable {P : Program} {t : TypeId} {l : List CT}
theorem Has.int_inv {k : IntKind} (h : Has P t l) (ht : P.underlying t = some (.int k)) : ∃ n, l = [.int k n] ∧ (Lit.int k n).wf = true := by
  cases h with
  | int h1 h2 => rw [ht] at h1; cases h1; exact ⟨_, rfl, h2⟩
  | bool h1 => rw [ht] at h1; cases h1
  | str h1 => rw [ht] at h1; cases h1
  | slice h1 => rw [ht] at h1; cases h1
  | struct h1 => rw [ht] at h1; cases h1
theorem Has.bool_inv (h : Has P t l) (ht : P.underlying t = some .bool) : ∃ b, l = [.bool b] := by
  cases h with
  | int h1 h2 => rw [ht] at h1; cases h1
  | bool h1 => exact ⟨_, rfl⟩
  | str h1 => rw [ht] at h1; cases h1
  | slice h1 => rw [ht] at h1; cases h1
  | struct h1 => rw [ht] at h1; cases h1
theorem Has.str_inv (h : Has P t l) (ht : P.underlying t = some .string) : ∃ s, l = [.str s] ∧ s.size ≤ maxLen := by
  cases h with
  | int h1 h2 => rw [ht] at h1; cases h1
  | bool h1 => rw [ht] at h1; cases h1
  | str h1 h2 => exact ⟨_, rfl, h2⟩
  | slice h1 => rw [ht] at h1; cases h1
  | struct h1 => rw [ht] at h1; cases h1
theorem Has.slice_inv {e : TypeId} (h : Has P t l) (ht : P.underlying t = some (.slice e)) : ∃ rs, l = [.rows (P.cellsOf e) rs] ∧ rs.length ≤ maxLen ∧ (∀ r ∈ rs, Has P e r) ∧ ∀ r ∈ rs, r.length = P.cellsOf e := by
  cases h with
  | int h1 h2 => rw [ht] at h1; cases h1
  | bool h1 => rw [ht] at h1; cases h1
  | str h1 => rw [ht] at h1; cases h1
  | slice h1 h2 h3 h4 => rw [ht] at h1; cases h1; exact ⟨_, rfl, h2, h3, h4⟩
  | struct h1 => rw [ht] at h1; cases h1
theorem Has.struct_inv {fs : Array Field} (h : Has P t l) (ht : P.underlying t = some (.struct fs)) : HasF P (fs.toList.map (·.type)) l := by
  cases h with
  | int h1 h2 => rw [ht] at h1; cases h1
  | bool h1 => rw [ht] at h1; cases h1
  | str h1 => rw [ht] at h1; cases h1
  | slice h1 => rw [ht] at h1; cases h1
  | struct h1 h2 => rw [ht] at h1; cases h1; exact h2
def structTys (P : Program) (t : TypeId) : Option (List TypeId) :=
  match P.underlying t with
  | some (.struct fs) => some (fs.toList.map (·.type))
  | _ => none
theorem Has.fields {ts : List TypeId} (h : Has P t l) (ht : structTys P t = some ts) : HasF P ts l := by
  unfold structTys at ht
  split at ht
  · rename_i hu
    simp only [Option.some.injEq] at ht; subst ht
    exact h.struct_inv hu
  · cases ht
theorem HasF.cons_inv {ts : List TypeId} (h : HasF P (t :: ts) l) : ∃ a b, l = a ++ b ∧ Has P t a ∧ HasF P ts b := by
  cases h with
  | cons h1 h2 => exact ⟨_, _, rfl, h1, h2⟩
theorem HasF.nil_inv (h : HasF P [] l) : l = [] := by cases h; rfl
theorem HasF.int {ts : List TypeId} {k : IntKind} (h : HasF P (t :: ts) l) (ht : P.underlying t = some (.int k)) : ∃ n r, l = .int k n :: r ∧ (Lit.int k n).wf = true ∧ HasF P ts r := by
  obtain ⟨a, b, rfl, h1, h2⟩ := h.cons_inv
  obtain ⟨n, rfl, hw⟩ := h1.int_inv ht
  exact ⟨n, b, rfl, hw, h2⟩
theorem HasF.bool {ts : List TypeId} (h : HasF P (t :: ts) l) (ht : P.underlying t = some .bool) : ∃ n r, l = .bool n :: r ∧ HasF P ts r := by
  obtain ⟨a, b, rfl, h1, h2⟩ := h.cons_inv
  obtain ⟨n, rfl⟩ := h1.bool_inv ht
  exact ⟨n, b, rfl, h2⟩
theorem HasF.str {ts : List TypeId} (h : HasF P (t :: ts) l) (ht : P.underlying t = some .string) : ∃ n r, l = .str n :: r ∧ n.size ≤ maxLen ∧ HasF P ts r := by
  obtain ⟨a, b, rfl, h1, h2⟩ := h.cons_inv
  obtain ⟨n, rfl, hw⟩ := h1.str_inv ht
  exact ⟨n, b, rfl, hw, h2⟩
theorem HasF.slice {ts : List TypeId} {e : TypeId} (h : HasF P (t :: ts) l) (ht : P.underlying t = some (.slice e)) (sz : Nat) (hsz : P.cellsOf e = sz) : ∃ rs r, l = .rows sz rs :: r ∧ rs.length ≤ maxLen ∧ (∀ r ∈ rs, Has P e r) ∧ HasF P ts r := by
  obtain ⟨a, b, rfl, h1, h2⟩ := h.cons_inv
  obtain ⟨n, rfl, h3, h4, h5⟩ := h1.slice_inv ht
  subst hsz
  exact ⟨n, b, rfl, h3, h4, h2⟩
end

/-! ### bulk -/

mutual
def CT.bulk : CT → Nat
  | .int _ _ => 1
  | .bool _ => 1
  | .str s => s.size + 1
  | .rows _ l => bulkss l + 1
def bulks : List CT → Nat
  | [] => 0
  | c :: l => c.bulk + bulks l
def bulkss : List (List CT) → Nat
  | [] => 0
  | r :: l => bulks r + bulkss l
end

mutual
def bulkD {H : Type} : DataW H → Nat
  | .lit (.string bytes) => bytes.length + 1
  | .lit _ => 1
  | .nil => 1
  | .ptr d => bulkD d + 1
  | .slice elems spare => bulkDs elems + bulkDs spare + 1
  | .agg parts => bulkDs parts + 1
  | .iface _ d => bulkD d + 1
  | .map entries => bulkDe entries + 1
  | .held _ => 1
def bulkDs {H : Type} : List (DataW H) → Nat
  | [] => 0
  | d :: r => bulkD d + bulkDs r
def bulkDe {H : Type} : List (Lit × DataW H) → Nat
  | [] => 0
  | x :: r => bulkDx x + bulkDe r
def bulkDx {H : Type} : Lit × DataW H → Nat
  | (.string bytes, d) => bytes.length + bulkD d + 1
  | (_, d) => bulkD d + 1
end

theorem bulks_append (a b : List CT) : bulks (a ++ b) = bulks a + bulks b := by
  induction a with
  | nil => simp [bulks]
  | cons c a ih => simp only [List.cons_append, bulks, ih]; omega
theorem bulkss_append (a b : List (List CT)) : bulkss (a ++ b) = bulkss a + bulkss b := by
  induction a with
  | nil => simp [bulkss]
  | cons c a ih => simp only [List.cons_append, bulkss, ih]; omega
theorem bulkss_mem {l : List (List CT)} {r : List CT} (h : r ∈ l) : bulks r ≤ bulkss l := by
  induction l with
  | nil => cases h
  | cons a l ih =>
    rw [bulkss]
    rcases List.mem_cons.1 h with rfl | h
    · omega
    · have := ih h; omega
theorem bulk_pos (c : CT) : 0 < c.bulk := by cases c <;> simp [CT.bulk]
theorem len_bulks (l : List CT) : l.length ≤ bulks l := by
  induction l with
  | nil => simp [bulks]
  | cons c l ih => have := bulk_pos c; simp only [List.length_cons, bulks]; omega

/-! ### layouts -/

def layF (P : Program) : Nat → List Field → Option Nat
  | o, [] => some o
  | o, f :: r => if f.offset = o then layF P (o + P.cellsOf f.type) r else none

/-- A set of types that is closed: numbers, truth values, texts, slices and structs of such. -/
def plainTy (P : Program) (ts : List TypeId) (t : TypeId) : Bool :=
  match P.underlying t with
  | some (.int _) => true
  | some .bool => true
  | some .string => true
  | some (.slice e) => ts.contains e && decide (0 < P.cellsOf e)
  | some (.struct fs) => (fs.toList.all fun f => ts.contains f.type) && (layF P 0 fs.toList == some (P.cellsOf t))
  | _ => false
def plainTys (P : Program) (ts : List TypeId) : Bool := ts.all (plainTy P ts)

section
variable {H : Type} {enc : TypeId × Value → H} {P : Program} {w : World} {spare : Nat → Bool} {held : Bool}

theorem bulkDs_map {α : Type} (f : α → DataW H) : ∀ l : List α, bulkDs (l.map f) = (l.map fun a => bulkD (f a)).sum
  | [] => rfl
  | a :: l => by simp only [List.map_cons, bulkDs, List.sum_cons, bulkDs_map f l]

/-- What is opened of cells. -/
def Opened (P : Program) (w : World) (t : TypeId) (cs : List Value) (b : Nat) : Prop :=
  ∃ l : List CT, RepL (memOf w) [] cs (avs l) ∧ OneCells cs ∧ Has P t l ∧ bulks l ≤ b

theorem avs_append (a b : List CT) : avs (a ++ b) = avs a ++ avs b := by simp only [avs_map, List.map_append]

theorem fields_open {n : Nat} {cs : List Value} (each : ∀ t cs x, DataW.trod enc P w 0 spare held n t cs = some x → ∀ {ts : List TypeId}, t ∈ ts → plainTys P ts = true → Opened P w t cs (bulkD x.1)) {ts : List TypeId} (hts : plainTys P ts = true) :
    ∀ (l : List Field) (o e : Nat) (xs : List (DataW H × List MemPlace)), layF P o l = some e → (∀ f ∈ l, f.type ∈ ts) → xs.length = l.length → e ≤ cs.length →
      (∀ (i : Nat) f, l[i]? = some f → DataW.trod enc P w 0 spare held n f.type ((cs.drop f.offset).take (P.cellsOf f.type)) = xs[i]?) →
      o ≤ e ∧ ∃ r : List CT, RepL (memOf w) [] ((cs.drop o).take (e - o)) (avs r) ∧ OneCells ((cs.drop o).take (e - o)) ∧ HasF P (l.map (·.type)) r ∧ bulks r ≤ bulkDs (xs.map (·.1)) := by
  intro l
  induction l with
  | nil =>
    intro o e xs hl _ hx he _
    simp only [layF, Option.some.injEq] at hl; subst hl
    refine ⟨Nat.le_refl _, [], ?_, ?_, .nil, Nat.zero_le _⟩
    · rw [Nat.sub_self, List.take_zero]; exact .nil
    · rw [Nat.sub_self, List.take_zero]; intro v hv; cases hv
  | cons f l ih =>
    intro o e xs hl hm hx he hf
    simp only [layF] at hl
    split at hl
    · rename_i ho
      cases xs with
      | nil => simp at hx
      | cons x xs =>
        obtain ⟨h1, r, r1, r2, r3, r4⟩ := ih (o + P.cellsOf f.type) e xs hl (fun g hg => hm g (by simp [hg])) (by simpa using hx) he (fun i g hg => by
          have := hf (i + 1) g (by simpa using hg)
          simpa using this)
        have h0 := hf 0 f rfl
        simp only [List.getElem?_cons_zero] at h0
        obtain ⟨a, a1, a2, a3, a4⟩ := each _ _ _ h0 (hm f (by simp)) hts
        rw [ho] at a1 a2
        have hsplit : (cs.drop o).take (e - o) = (cs.drop o).take (P.cellsOf f.type) ++ (cs.drop (o + P.cellsOf f.type)).take (e - (o + P.cellsOf f.type)) := by
          have e1 : e - o = P.cellsOf f.type + (e - (o + P.cellsOf f.type)) := by omega
          rw [e1, List.take_add, List.drop_drop]
        refine ⟨by omega, a ++ r, ?_, ?_, .cons a3 r3, ?_⟩
        · rw [hsplit, avs_append]; exact a1.append r1
        · rw [hsplit]
          intro v hv
          rcases List.mem_append.1 hv with h | h
          · exact a2 v h
          · exact r2 v h
        · rw [bulks_append]
          simp only [List.map_cons, bulkDs]; omega
    · cases hl

theorem opens : ∀ (fuel : Nat) t cs x, DataW.trod enc P w 0 spare held fuel t cs = some x → ∀ {ts : List TypeId}, t ∈ ts → plainTys P ts = true → Opened P w t cs (bulkD x.1) := by
  intro fuel
  induction fuel using Nat.strongRecOn with
  | _ fuel ih =>
    intro t cs x h ts ht hts
    have hp : plainTy P ts t = true := List.all_eq_true.1 hts t ht
    unfold plainTy at hp
    split at hp
    · rename_i k hu
      obtain ⟨n, rfl, rfl, hw⟩ := DataW.trod_int hu h
      exact ⟨[.int k n], .val _ .nil, fun v hv => by simp at hv; subst hv; rfl, .int hu hw, by simp [bulks, CT.bulk, bulkD]⟩
    · rename_i hu
      obtain ⟨b, rfl, rfl⟩ := DataW.trod_bool hu h
      exact ⟨[.bool b], .val _ .nil, fun v hv => by simp at hv; subst hv; rfl, .bool hu, by simp [bulks, CT.bulk, bulkD]⟩
    · rename_i hu
      obtain ⟨s, rfl, rfl, hl⟩ := DataW.trod_string hu h
      refine ⟨[.str s], .val _ .nil, fun v hv => by simp at hv; subst hv; rfl, .str hu hl, ?_⟩
      simp only [bulks, CT.bulk, bulkD, Array.length_toList]
      exact Nat.le_refl _
    · rename_i e hu
      simp only [Bool.and_eq_true, decide_eq_true_eq, List.contains_iff_mem] at hp
      obtain ⟨he, hpos⟩ := hp
      rcases DataW.trod_slice hu h with ⟨rfl, rfl⟩ | ⟨a, len, cap, elems, rest, n, rfl, rfl, rfl, _, hl, hm, hlen, hel, _, _⟩
      · exact ⟨[.rows (P.cellsOf e) []], .slice0 _ _ .nil, fun v hv => by simp at hv; subst hv; rfl, .slice hu (Nat.zero_le _) (fun r hr => by cases hr) (fun r hr => by cases hr), by simp [bulks, CT.bulk, bulkD, bulkss]⟩
      · have h1 : OneCells [Value.slice (some a) len cap] := fun v hv => by simp at hv; subst hv; rfl
        by_cases h0 : len = 0
        · subst h0
          refine ⟨[.rows (P.cellsOf e) []], .slice1 a cap _ .no (.inl rfl) .nil, h1, .slice hu (Nat.zero_le _) (fun r hr => by cases hr) (fun r hr => by cases hr), ?_⟩
          simp only [bulks, CT.bulk, bulkD, bulkss]; omega
        · have get : ∀ i, i < len → ∃ cs y, elems[i]? = some y ∧ w.cells? 0 (a.add (i * P.cellsOf e)) (P.cellsOf e) = some cs ∧ DataW.trod enc P w 0 spare held n e cs = some y := by
            intro i hi
            have hb := hel i hi
            rw [List.getElem?_eq_getElem (by omega), Option.bind_eq_some_iff] at hb
            obtain ⟨cs, hcs, hy⟩ := hb
            exact ⟨cs, _, List.getElem?_eq_getElem (by omega), hcs, hy⟩
          have hspot : a.spot = none := by
            obtain ⟨cs, y, _, hcs, _⟩ := get 0 (by omega)
            obtain ⟨_, hl2, hc⟩ := World.cells?_some hcs
            have := hc 0 hpos
            have hlt : 0 < cs.length := by omega
            rw [List.getElem?_eq_getElem hlt] at this
            unfold World.cell? at this
            split at this
            · split at this
              · cases this
              · rename_i hs; simpa [Addr.add] using hs
            · cases this
          obtain ⟨b, o, sp⟩ := a
          simp only at hspot; subst hspot
          -- row by row
          have rows : ∀ (k o' i0 : Nat), i0 + k = len → o' = o + i0 * P.cellsOf e → ∃ (ws : List Value) (l : List (List CT)), l.length = k ∧ ReadAt (memOf w) b o' ws ∧ RepL (memOf w) [] ws (avss l).flatten ∧ (∀ r ∈ l, Has P e r ∧ r.length = P.cellsOf e) ∧ bulkss l ≤ bulkDs ((elems.drop i0).map (·.1)) := by
            intro k
            induction k with
            | zero => intro o' i0 _ _; exact ⟨[], [], rfl, (fun i v h => by simp at h), .nil, (fun r hr => by simp at hr), Nat.zero_le _⟩
            | succ k ihk =>
              intro o' i0 hk ho'
              obtain ⟨cs, y, hy, hcs, htr⟩ := get i0 (by omega)
              obtain ⟨r, r1, r2, r3, r4⟩ := ih n (Nat.lt_succ_self n) e cs y htr he hts
              obtain ⟨ws, l, e1, e2, e3, e4, e5⟩ := ihk (o' + P.cellsOf e) (i0 + 1) (by omega) (by rw [ho', Nat.succ_mul]; omega)
              obtain ⟨_, hl2, hc⟩ := World.cells?_some hcs
              have hlen2 : cs.length = P.cellsOf e := hl2
              refine ⟨cs ++ ws, r :: l, by simp [e1], ?_, ?_, ?_, ?_⟩
              · intro i v hv
                rcases Nat.lt_or_ge i cs.length with hlt | hge
                · rw [List.getElem?_append_left hlt] at hv
                  refine memOf_at ?_ (r2 v (List.mem_of_getElem? hv))
                  have := hc i (by omega)
                  rw [hv, add_addr, add_addr] at this
                  rw [ho']; exact this
                · rw [List.getElem?_append_right hge] at hv
                  have := e2 (i - cs.length) v hv
                  have e : o' + P.cellsOf e + (i - cs.length) = o' + i := by omega
                  rwa [e] at this
              · simp only [avss, List.flatten_cons]
                exact r1.append e3
              · intro q hq
                rcases List.mem_cons.1 hq with rfl | hq
                · refine ⟨r3, ?_⟩
                  have := r1.length
                  rw [avs_map, List.length_map] at this
                  omega
                · exact e4 q hq
              · have hd : elems.drop i0 = y :: elems.drop (i0 + 1) := by
                  rw [List.drop_eq_getElem_cons (by omega)]
                  rw [List.getElem?_eq_getElem (by omega)] at hy
                  simp only [Option.some.injEq] at hy
                  rw [hy]
                rw [hd]
                simp only [List.map_cons, bulkDs, bulkss]; omega
          obtain ⟨ws, l, e1, e2, e3, e4, e5⟩ := rows len o 0 (by omega) (by omega)
          have := RepL.slice (I := memOf w) (μ := []) (vs := []) (as := []) b o cap (P.cellsOf e) ws (avss l) .no e2 e3 (fun r hr => by
            rw [avss_map] at hr
            obtain ⟨x, hx, rfl⟩ := List.mem_map.1 hr
            rw [avs_map, List.length_map]
            exact (e4 x hx).2) (by rw [avss_len, e1]; exact hl) (fun h => by cases h) .nil
          rw [avss_len, e1] at this
          refine ⟨[.rows (P.cellsOf e) l], this, h1, .slice hu (by omega) (fun r hr => (e4 r hr).1) (fun r hr => (e4 r hr).2), ?_⟩
          simp only [bulks, CT.bulk, bulkD, List.drop_zero] at e5 ⊢
          omega
    · rename_i fs hu
      simp only [Bool.and_eq_true, beq_iff_eq, List.all_eq_true, List.contains_iff_mem] at hp
      obtain ⟨hm, hlay⟩ := hp
      obtain ⟨xs, n, rfl, rfl, hl, hxl, hf⟩ := DataW.trod_struct hu h
      obtain ⟨_, r, r1, r2, r3, r4⟩ := fields_open (fun t cs x h => ih n (Nat.lt_succ_self n) t cs x h) hts fs.toList 0 (P.cellsOf t) xs hlay hm (by simpa using hxl) (by omega) (fun i f hif => hf i f (by simpa using hif))
      have e : (cs.drop 0).take (P.cellsOf t - 0) = cs := by rw [List.drop_zero, Nat.sub_zero, List.take_of_length_le (by omega)]
      rw [e] at r1 r2
      refine ⟨r, r1, r2, .struct hu r3, ?_⟩
      simp only [bulkD]; omega
    · cases hp
end
end Go.Eng
