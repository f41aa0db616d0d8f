/-
  THE ENGINE, part 25: pointers under other names: values.
-/
import Derived.Test.YtnohjjhgdkpgcaaDoorE17
set_option linter.unusedVariables false
set_option linter.unusedSimpArgs false
namespace Go.Eng

mutual
def AV.ren (ρ : Nat → Nat) : AV → AV
  | .any => .any
  | .val v => .val v
  | .slice sz rows own => .slice sz (renss ρ rows) own
  | .ref cs => .ref (rens ρ cs)
  | .ptr id off => .ptr (ρ id) off
  | .lp t g o => .lp t g o
  | .func fn a b => .func fn (rens ρ a) (rens ρ b)
  | .iface t v => .iface t (v.ren ρ)
  | .agg cs => .agg (rens ρ cs)
  | .tuple vs => .tuple (rens ρ vs)
def rens (ρ : Nat → Nat) : List AV → List AV
  | [] => []
  | a :: l => a.ren ρ :: rens ρ l
def renss (ρ : Nat → Nat) : List (List AV) → List (List AV)
  | [] => []
  | a :: l => rens ρ a :: renss ρ l
end

section
variable {ρ : Nat → Nat}
theorem rens_map : ∀ l : List AV, rens ρ l = l.map (AV.ren ρ)
  | [] => rfl
  | a :: l => by rw [rens, rens_map l, List.map_cons]
theorem renss_map : ∀ l : List (List AV), renss ρ l = l.map (List.map (AV.ren ρ))
  | [] => rfl
  | a :: l => by rw [renss, renss_map l, List.map_cons, rens_map]

abbrev mr (ρ : Nat → Nat) (l : List AV) : List AV := l.map (AV.ren ρ)
abbrev mrr (ρ : Nat → Nat) (l : List (List AV)) : List (List AV) := l.map (List.map (AV.ren ρ))

@[simp] theorem ren_any : AV.ren ρ .any = .any := rfl
@[simp] theorem ren_val (v : Value) : AV.ren ρ (.val v) = .val v := rfl
@[simp] theorem ren_slice (sz : Nat) (rows : List (List AV)) (own : Own) : AV.ren ρ (.slice sz rows own) = .slice sz (rows.map (List.map (AV.ren ρ))) own := by rw [AV.ren, renss_map]
@[simp] theorem ren_ref (cs : List AV) : AV.ren ρ (.ref cs) = .ref (cs.map (AV.ren ρ)) := by rw [AV.ren, rens_map]
@[simp] theorem ren_ptr (id off : Nat) : AV.ren ρ (.ptr id off) = .ptr (ρ id) off := rfl
@[simp] theorem ren_lp (t g o : Nat) : AV.ren ρ (.lp t g o) = .lp t g o := rfl
@[simp] theorem ren_func (fn : Fn) (a b : List AV) : AV.ren ρ (.func fn a b) = .func fn (a.map (AV.ren ρ)) (b.map (AV.ren ρ)) := by rw [AV.ren, rens_map, rens_map]
@[simp] theorem ren_iface (t : TypeId) (v : AV) : AV.ren ρ (.iface t v) = .iface t (v.ren ρ) := rfl
@[simp] theorem ren_agg (cs : List AV) : AV.ren ρ (.agg cs) = .agg (cs.map (AV.ren ρ)) := by rw [AV.ren, rens_map]
@[simp] theorem ren_tuple (cs : List AV) : AV.ren ρ (.tuple cs) = .tuple (cs.map (AV.ren ρ)) := by rw [AV.ren, rens_map]

@[simp] theorem ren_dis (v : AV) : v.dis.ren ρ = (v.ren ρ).dis := by
  cases v with
  | slice sz rows own => cases own <;> simp [AV.dis]
  | _ => simp [AV.dis]

theorem ren_dis_map (l : List AV) : (l.map AV.dis).map (AV.ren ρ) = (l.map (AV.ren ρ)).map AV.dis := by
  simp only [List.map_map]; exact List.map_congr_left fun a _ => ren_dis a

theorem ren_cells (v : AV) : (v.ren ρ).cells = v.cells.map (List.map (AV.ren ρ)) := by
  cases v with
  | val v => cases v <;> simp [AV.cells]
  | _ => simp [AV.cells]

theorem ren_cells' (v : AV) : (v.ren ρ).cells.map (List.map AV.dis) = (v.cells.map (List.map AV.dis)).map (List.map (AV.ren ρ)) := by
  rw [ren_cells]
  cases v.cells with
  | none => rfl
  | some l => simp only [Option.map_some, ren_dis_map]

theorem ren_scells (v : AV) : (v.ren ρ).scells = v.scells.map (List.map (AV.ren ρ)) := by
  cases v with
  | slice sz rows own => simp [AV.scells]
  | val v => simp only [ren_val, AV.scells]; exact ren_cells' (.val v)
  | any => simp only [AV.scells]; exact ren_cells' .any
  | ref cs => have := ren_cells' (ρ := ρ) (.ref cs); simp only [ren_ref] at this ⊢; simpa only [AV.scells] using this
  | ptr a b => have := ren_cells' (ρ := ρ) (.ptr a b); simp only [ren_ptr] at this ⊢; simpa only [AV.scells] using this
  | lp a b c => have := ren_cells' (ρ := ρ) (.lp a b c); simp only [ren_lp] at this ⊢; simpa only [AV.scells] using this
  | func a b c => have := ren_cells' (ρ := ρ) (.func a b c); simp only [ren_func] at this ⊢; simpa only [AV.scells] using this
  | iface a b => have := ren_cells' (ρ := ρ) (.iface a b); simp only [ren_iface] at this ⊢; simpa only [AV.scells] using this
  | agg a => have := ren_cells' (ρ := ρ) (.agg a); simp only [ren_agg] at this ⊢; simpa only [AV.scells] using this
  | tuple a => have := ren_cells' (ρ := ρ) (.tuple a); simp only [ren_tuple] at this ⊢; simpa only [AV.scells] using this

@[simp] theorem ren_cellsVal : ∀ l : List AV, cellsVal (l.map (AV.ren ρ)) = cellsVal l
  | [] => rfl
  | a :: l => by cases a <;> simp [cellsVal, ren_cellsVal l]

@[simp] theorem ren_toVal (v : AV) : (v.ren ρ).toVal = v.toVal := by
  cases v with
  | iface t v => cases v <;> simp [AV.toVal]
  | _ => simp [AV.toVal]

@[simp] theorem ren_isLp (v : AV) : (v.ren ρ).isLp = v.isLp := by cases v <;> simp [AV.isLp]

@[simp] theorem ren_anyLp (l : List AV) : (l.map (AV.ren ρ)).any AV.isLp = l.any AV.isLp := by
  induction l with
  | nil => rfl
  | cons a l ih => simp only [List.map_cons, List.any_cons, ren_isLp, ih]

@[simp] theorem ren_vals (l : List Value) : (l.map AV.val).map (AV.ren ρ) = l.map AV.val := by
  simp only [List.map_map]; exact List.map_congr_left fun a _ => rfl

@[simp] theorem ren_ofCell (v : Value) : (ofCell v).ren ρ = ofCell v := by
  unfold ofCell; split <;> simp only [ren_slice, ren_func, ren_val, ren_vals, List.map_nil]

@[simp] theorem ren_ofCells (l : List Value) : (l.map ofCell).map (AV.ren ρ) = l.map ofCell := by
  simp only [List.map_map]; exact List.map_congr_left fun a _ => ren_ofCell a

@[simp] theorem ren_ofVal (v : Value) : (ofVal v).ren ρ = ofVal v := by
  unfold ofVal
  split
  · split
    · simp only [ren_agg, ren_ofCells]
    · rfl
  · exact ren_ofCell v

theorem getD_ren (s : List AV) (t : Nat) : (s.map (AV.ren ρ)).getD t .any = (s.getD t .any).ren ρ := by
  simp only [List.getD_eq_getElem?_getD, List.getElem?_map]
  cases s[t]? <;> rfl

theorem ren_aeval (s : List AV) (x : Operand) : aeval (s.map (AV.ren ρ)) x = (aeval s x).ren ρ := by
  cases x with
  | tmp t => exact getD_ren s t
  | const v => simp [aeval]
  | _ => simp [aeval]

theorem ren_map_getElem? (cs : List AV) (i : Nat) : (cs.map (AV.ren ρ))[i]? = (cs[i]?).map (AV.ren ρ) := List.getElem?_map ..

theorem ren_writeCells : ∀ (new cs : List AV) (off : Nat), writeCells (cs.map (AV.ren ρ)) off (new.map (AV.ren ρ)) = (writeCells cs off new).map (AV.ren ρ)
  | [], cs, off => rfl
  | v :: r, cs, off => by simp only [List.map_cons, writeCells, ← List.map_set, ren_writeCells r]

section
variable {P : Program}

theorem ren_zeroCells {t : TypeId} : (zeroCells P t).map (List.map (AV.ren ρ)) = zeroCells P t := by
  unfold zeroCells
  split
  · split
    · simp only [Option.map_some, ren_ofCells]
    · rfl
  · rfl

theorem ren_readCells (t : TypeId) (cs : List AV) (off : Nat) : readCells P t (cs.map (AV.ren ρ)) off = (readCells P t cs off).map (AV.ren ρ) := by
  unfold readCells
  split
  · split
    · rename_i n hn
      simp only [List.length_map]
      split
      · simp only [Option.map_some, ren_agg, Option.some.injEq, AV.agg.injEq, ← List.map_drop, ← List.map_take, ren_dis_map]
      · rfl
    · rfl
  · rw [List.getElem?_map]
    cases cs[off]? <;> simp
  · rfl

def renP (ρ : Nat → Nat) (ps : List (Nat × AV)) : List (Nat × AV) := ps.map fun p => (p.1, p.2.ren ρ)

theorem ren_fillA (t : TypeId) : ∀ (ps : List (Nat × AV)) (cells : List AV), fillA P t (cells.map (AV.ren ρ)) (renP ρ ps) = (fillA P t cells ps).map (List.map (AV.ren ρ))
  | [], cells => rfl
  | (i, v) :: rest, cells => by
    simp only [renP, List.map_cons, fillA, ren_cells]
    cases place? P t i with
    | none => rfl
    | some p =>
      obtain ⟨off, n⟩ := p
      cases v.cells with
      | none => rfl
      | some cs =>
        simp only [Option.map_some, List.length_map]
        split
        · rw [← ren_dis_map, ren_writeCells]; exact ren_fillA t rest _
        · rfl

theorem ren_zipParts {α : Type} : ∀ (ps : List (Nat × α)) (vs : List AV), zipParts ps (vs.map (AV.ren ρ)) = renP ρ (zipParts ps vs)
  | [], vs => by cases vs <;> rfl
  | (i, a) :: r, [] => rfl
  | (i, a) :: r, v :: vs => by simp only [List.map_cons, zipParts, ren_zipParts r vs]; rfl

theorem ren_chunks (sz : Nat) : ∀ (n : Nat) (l : List AV), chunks sz n (l.map (AV.ren ρ)) = (chunks sz n l).map (List.map (AV.ren ρ))
  | 0, l => rfl
  | n + 1, l => by simp only [chunks, List.map_cons, ← List.map_take, ← List.map_drop, ren_chunks sz n]

theorem ren_repeatCells (l : List AV) (n : Nat) (h : l.map (AV.ren ρ) = l) : (repeatCells l n).map (AV.ren ρ) = repeatCells l n := by
  induction n with
  | zero => rfl
  | succ n ih =>
    simp only [repeatCells, List.replicate_succ, List.flatten_cons, List.map_append, h] at ih ⊢
    rw [ih]

theorem ren_isPtrNil (t : TypeId) (a b : AV) : isPtrNil P t (a.ren ρ) (b.ren ρ) = isPtrNil P t a b := by
  unfold isPtrNil
  cases P.underlying t with
  | none => rfl
  | some d =>
    cases a with
    | val v => cases b with
      | val u => rfl
      | _ => cases d <;> first | rfl | (cases v <;> first | rfl | (rename_i p; cases p <;> rfl))
    | _ => cases b with
      | val v => cases d <;> first | rfl | (cases v <;> first | rfl | (rename_i p; cases p <;> rfl))
      | _ => cases d <;> rfl

theorem ren_abin (op : BinOp) (t : TypeId) (x y : Operand) (a b : AV) : abin P op t x y (a.ren ρ) (b.ren ρ) = (abin P op t x y a b).map (AV.ren ρ) := by
  unfold abin
  simp only [ren_toVal, ren_isPtrNil]
  split
  · rw [Option.map_map]; congr 1; funext v; simp
  · split
    · cases isPtrNil P t a b <;> rfl
    · cases isPtrNil P t a b <;> rfl
    · rfl

theorem ren_bytesOfRows : ∀ l : List (List AV), bytesOfRows (l.map (List.map (AV.ren ρ))) = bytesOfRows l
  | [] => rfl
  | r :: l => by
    cases r with
    | nil => simp [bytesOfRows]
    | cons a r => cases r with
      | nil => cases a with
        | val v => cases v with
          | int k n => cases k <;> simp [bytesOfRows, ren_bytesOfRows l]
          | _ => simp [bytesOfRows]
        | _ => simp [bytesOfRows]
      | cons b r => simp [bytesOfRows]

theorem ren_aconvert (src dst : TypeId) (a : AV) : aconvert P src dst (a.ren ρ) = (aconvert P src dst a).map (AV.ren ρ) := by
  cases a with
  | val v => simp only [ren_val, aconvert, Option.map_map]; congr 1; funext v; simp
  | slice sz rows own =>
    simp only [ren_slice, aconvert, ren_bytesOfRows]
    split
    · split
      · rfl
      · rfl
    · rfl
  | _ => simp [aconvert]

theorem ren_bound (x : Option AV) (d m : Nat) : bound? (x.map (AV.ren ρ)) d m = bound? x d m := by
  cases x with
  | none => rfl
  | some a => cases a <;> simp [bound?]

theorem ren_aslice (t : TypeId) (a : AV) (lo hi mx : Option AV) : aslice P t (a.ren ρ) (lo.map (AV.ren ρ)) (hi.map (AV.ren ρ)) (mx.map (AV.ren ρ)) = (aslice P t a lo hi mx).map (AV.ren ρ) := by
  unfold aslice
  split
  · rename_i s hu ha
    have : a = .val (.string s) := by cases a <;> simp at ha; subst ha; rfl
    subst this
    simp only [hu, ren_bound]
    cases mx with
    | some m => rfl
    | none =>
      simp only [Option.map_none]
      cases bound? hi s.size s.size with
      | none => rfl
      | some h => simp only; cases bound? lo 0 h <;> rfl
  · rename_i e sz rows own hu ha
    have : ∃ rows', a = .slice sz rows' own ∧ rows = rows'.map (List.map (AV.ren ρ)) := by
      cases a with
      | slice sz' rows' own' => simp only [ren_slice, AV.slice.injEq] at ha; exact ⟨rows', by rw [ha.1, ha.2.2], ha.2.1.symm⟩
      | _ => simp at ha
    obtain ⟨rows', rfl, rfl⟩ := this
    simp only [hu, List.map_eq_nil_iff, List.length_map, ren_bound]
    cases size? P e with
    | none => rfl
    | some n =>
      simp only
      split
      · cases mx with
        | none =>
          simp only [Option.map_none]
          cases bound? hi rows'.length rows'.length with
          | none => rfl
          | some h =>
            simp only
            cases bound? lo 0 h with
            | none => rfl
            | some l => simp only [Option.map_some, ren_slice, List.map_take, List.map_drop]
        | some m =>
          simp only [Option.map_some]
          cases hi with
          | none => rfl
          | some hi =>
            have h1 := ren_bound (ρ := ρ) (some m) 0 rows'.length
            simp only [Option.map_some] at h1 ⊢
            rw [h1]
            cases bound? (some m) 0 rows'.length with
            | none => rfl
            | some m =>
              have h2 := ren_bound (ρ := ρ) (some hi) 0 m
              simp only [Option.map_some] at h2 ⊢
              rw [h2]
              cases bound? (some hi) 0 m with
              | none => rfl
              | some h =>
                simp only
                cases bound? lo 0 h with
                | none => rfl
                | some l => simp only [Option.map_some, ren_slice, List.map_take, List.map_drop]
      · rfl
  · rename_i h1 h2
    cases hu : P.underlying t with
    | none => rfl
    | some d => cases d with
      | string => cases a with
        | val v => cases v with
          | string s => exact absurd rfl (h1 s hu)
          | _ => rfl
        | _ => rfl
      | slice e => cases a with
        | slice sz rows own => exact absurd (ren_slice ..) (h2 e _ _ _ hu)
        | _ => rfl
      | _ => rfl

theorem ren_afieldAddr (t : TypeId) (a : AV) (i : Nat) : afieldAddr P t (a.ren ρ) i = (afieldAddr P t a i).map (AV.ren ρ) := by
  unfold afieldAddr
  split
  · split
    · split
      · cases a with
        | ref cs =>
          simp only [ren_ref, List.length_map]
          split
          · simp
          · rfl
        | _ => simp
      · rfl
    · rfl
  · rfl

theorem ren_afield (t : TypeId) (a : AV) (i : Nat) : afield P t (a.ren ρ) i = (afield P t a i).map (AV.ren ρ) := by
  unfold afield partA
  cases P.underlying t with
  | none => simp
  | some d =>
    cases d with
    | struct fs =>
      cases a with
      | agg cs =>
        simp only [ren_agg]
        split
        · exact ren_readCells _ _ _
        · rfl
      | _ => simp
    | _ => simp

theorem ren_aindexAddr (t : TypeId) (a ix : AV) : aindexAddr P t (a.ren ρ) (ix.ren ρ) = (aindexAddr P t a ix).map (AV.ren ρ) := by
  unfold aindexAddr
  cases ix with
  | val v =>
    simp only [ren_val]
    cases P.underlying t with
    | none => rfl
    | some d =>
      cases d with
      | slice e =>
        cases v with
        | int k i =>
          cases a with
          | slice sz rows own =>
            simp only [ren_slice]
            split
            · rw [List.getElem?_map]
              cases rows[i.toNat]? with
              | none => rfl
              | some r =>
                simp only [Option.map_some]
                split
                · simp
                · rfl
            · rfl
          | _ => simp
        | _ => rfl
      | array len e =>
        cases v with
        | int k i =>
          simp only
          split
          · split
            · cases a with
              | ref cs =>
                simp only [ren_ref, List.length_map]
                split
                · simp
                · rfl
              | _ => simp
            · rfl
          · rfl
        | _ => rfl
      | _ => rfl
  | _ => cases P.underlying t with
    | none => simp
    | some d => cases d <;> simp

theorem ren_aindex (t : TypeId) (a ix : AV) : aindex P t (a.ren ρ) (ix.ren ρ) = (aindex P t a ix).map (AV.ren ρ) := by
  unfold aindex partA
  cases P.underlying t with
  | none => simp
  | some d =>
    cases d with
    | array len e =>
      cases a with
      | agg cs =>
        cases ix with
        | val v =>
          cases v with
          | int k i =>
            simp only [ren_agg, ren_val]
            split
            · split
              · exact ren_readCells _ _ _
              · rfl
            · rfl
          | _ => simp
        | _ => simp
      | _ => simp
    | string =>
      cases a with
      | val u =>
        cases u with
        | string s =>
          cases ix with
          | val v =>
            cases v with
            | int k i =>
              simp only [ren_val]
              split
              · cases s[i.toNat]? <;> rfl
              · rfl
            | _ => simp
          | _ => simp
        | _ => simp
      | _ => simp
    | _ => simp

theorem ren_atypeAssert (a : AV) (t : TypeId) (ok : Bool) : atypeAssert P (a.ren ρ) t ok = (atypeAssert P a t ok).map (AV.ren ρ) := by
  have fails : (if ok = true then match (P.info? t).bind (·.zero) with
      | some z => some (AV.tuple [ofVal z, .val (.bool false)])
      | none => none
    else none) = (if ok = true then match (P.info? t).bind (·.zero) with
      | some z => some (AV.tuple [ofVal z, .val (.bool false)])
      | none => none
    else none).map (AV.ren ρ) := by
    split
    · split
      · simp
      · rfl
    · rfl
  unfold atypeAssert
  simp only
  split
  · rfl
  · rfl
  · cases a with
    | iface u v =>
      simp only [ren_iface]
      split
      · split <;> simp
      · exact fails
    | val v => cases v <;> simp only [ren_val] <;> first | rfl | exact fails
    | _ => simp

theorem ren_alen (t : TypeId) (a : AV) : alen P t (a.ren ρ) = (alen P t a).map (AV.ren ρ) := by
  unfold alen
  cases P.underlying t with
  | none => simp
  | some d => cases d with
    | slice e => cases a <;> simp
    | string => cases a with
      | val v => cases v <;> simp
      | _ => simp
    | _ => simp

theorem ren_newRows (b : AV) : newRows (b.ren ρ) = (newRows b).map fun p => (p.1, p.2.map (List.map (AV.ren ρ))) := by
  cases b with
  | val v =>
    cases v with
    | string s =>
      simp only [ren_val, newRows, Option.map_some, Option.some.injEq, Prod.mk.injEq, List.map_map, true_and]
      exact List.map_congr_left fun a _ => rfl
    | _ => simp [newRows]
  | _ => simp [newRows]

theorem ren_aappend (ts : Array TypeId) (a b : AV) : aappend P ts (a.ren ρ) (b.ren ρ) = (aappend P ts a b).map (AV.ren ρ) := by
  unfold aappend
  cases ts[0]? with
  | none => rfl
  | some st => cases ts[1]? with
    | none => rfl
    | some xt =>
      simp only
      cases P.underlying st with
      | none => rfl
      | some d => cases d with
        | slice e =>
          cases P.underlying xt with
          | none => rfl
          | some xd =>
            cases xd with
            | int => rfl
            | _ =>
              simp only [ren_newRows]
              cases a with
              | slice sz rows own =>
                cases newRows b with
                | none => simp
                | some p =>
                  obtain ⟨sz', new⟩ := p
                  cases P.info? e with
                  | none => simp
                  | some i =>
                    simp only [ren_slice, Option.map_some, List.map_eq_nil_iff, List.length_map]
                    split
                    · simp
                    · split
                      · simp only [Option.map_some, ren_slice, List.map_append, List.map_map, Option.some.injEq, AV.slice.injEq, true_and, and_true, List.append_cancel_left_eq]
                        exact List.map_congr_left fun r _ => (ren_dis_map r).symm
                      · rfl
              | _ => simp
        | _ => rfl

theorem ren_amakeSlice (t : TypeId) (l c : AV) : amakeSlice P t (l.ren ρ) (c.ren ρ) = (amakeSlice P t l c).map (AV.ren ρ) := by
  unfold amakeSlice
  cases P.underlying t with
  | none => simp
  | some d => cases d with
    | slice e =>
      cases l with
      | val v => cases v with
        | int k l => cases c with
          | val v => cases v with
            | int k c =>
              simp only [ren_val]
              split
              · split
                · split
                  · simp only [Option.map_some, ren_slice, List.map_replicate, ren_ofCells]
                  · rfl
                · rfl
              · rfl
            | _ => simp
          | _ => simp
        | _ => simp
      | _ => simp
    | _ => simp

theorem ren_allVals : ∀ l : List AV, allVals (l.map (AV.ren ρ)) = allVals l
  | [] => rfl
  | a :: l => by simp only [List.map_cons, allVals, ren_toVal, ren_allVals l]

theorem ren_abuiltin (o : Oper) (b : Builtin) (ts : Array TypeId) (vs : List AV) : abuiltin P o b ts (vs.map (AV.ren ρ)) = (abuiltin P o b ts vs).map (AV.ren ρ) := by
  have maxmin : ∀ (g : Array Value → Sem Value) (vs : List AV), (match allVals (vs.map (AV.ren ρ)) with
      | some l => (semVal P (g l.toArray)).map ofVal
      | none => none) = (match allVals vs with
      | some l => (semVal P (g l.toArray)).map ofVal
      | none => none).map (AV.ren ρ) := by
    intro g vs
    rw [ren_allVals]
    cases allVals vs with
    | none => rfl
    | some l => simp only [Option.map_map]; congr 1; funext v; simp
  cases b with
  | len =>
    match vs with
    | [x] =>
      simp only [List.map_cons, List.map_nil, abuiltin]
      cases ts[0]? with
      | none => rfl
      | some t => exact ren_alen t x
    | [] => rfl
    | _ :: _ :: _ => rfl
  | append =>
    match vs with
    | [x, y] => simp only [List.map_cons, List.map_nil, abuiltin]; exact ren_aappend ts x y
    | [] => rfl
    | [_] => rfl
    | _ :: _ :: _ :: _ => rfl
  | max => simp only [abuiltin]; exact maxmin (fun l => Builtin.max_ ts o.type l) vs
  | min => simp only [abuiltin]; exact maxmin (fun l => Builtin.min_ ts o.type l) vs
  | _ => rfl

theorem ren_abuild (t : TypeId) (ps : List (Nat × AV)) : abuild P t (renP ρ ps) = (abuild P t ps).map (AV.ren ρ) := by
  have key : ∀ z, zeroCells P t = some z → (fillA P t z (renP ρ ps)).map AV.agg = ((fillA P t z ps).map AV.agg).map (AV.ren ρ) := by
    intro z hz
    have h := ren_zeroCells (P := P) (ρ := ρ) (t := t)
    rw [hz] at h
    simp only [Option.map_some, Option.some.injEq] at h
    have := ren_fillA (P := P) (ρ := ρ) t ps z
    rw [h] at this
    rw [this]
    cases fillA P t z ps <;> simp
  unfold abuild
  split
  · split
    · split
      · rename_i z hz; exact key z hz
      · rfl
    · rfl
  · split
    · rename_i z _ hz _; exact key z hz
    · rfl
  · rfl

theorem ren_abuildSlice (t : TypeId) (n : Nat) (ps : List (Nat × AV)) : abuildSlice P t n (renP ρ ps) = (abuildSlice P t n ps).map (AV.ren ρ) := by
  unfold abuildSlice
  split
  · split
    · split
      · split
        · rename_i i _ z _ _
          have h := ren_fillA (P := P) (ρ := ρ) t ps (repeatCells (z.cells.toList.map ofCell) n)
          rw [ren_repeatCells _ _ (ren_ofCells _)] at h
          rw [h]
          cases fillA P t (repeatCells (z.cells.toList.map ofCell) n) ps with
          | none => rfl
          | some cs => simp only [Option.map_some, ren_slice, ren_chunks]
        · rfl
      · rfl
    · rfl
  · rfl

theorem ren_anilCheck (a : AV) : anilCheck (a.ren ρ) = (anilCheck a).map (AV.ren ρ) := by
  cases a with
  | func fn a b => cases fn <;> simp [anilCheck]
  | _ => simp [anilCheck]

theorem ren_amakeInterface (t : TypeId) (a : AV) : amakeInterface P t (a.ren ρ) = (amakeInterface P t a).map (AV.ren ρ) := by
  unfold amakeInterface
  split
  · rfl
  · rfl
  · simp only [ren_isLp]
    split
    · rfl
    · simp

theorem ren_aextract (v : AV) (i : Nat) : aextract (v.ren ρ) i = (aextract v i).map (AV.ren ρ) := by
  cases v with
  | tuple vs =>
    simp only [ren_tuple, aextract, List.getElem?_map]
    cases vs[i]? <;> simp
  | val v => cases v with
    | tuple vs =>
      simp only [ren_val, aextract]
      cases vs[i]? <;> simp
    | _ => simp [aextract]
  | _ => simp [aextract]

theorem ren_newCells (o : Oper) (vs : List AV) : newCells P o (vs.map (AV.ren ρ)) = (newCells P o vs).map (List.map (AV.ren ρ)) := by
  unfold newCells
  cases o.op with
  | alloc e =>
    cases vs with
    | nil => simp only [List.map_nil]; exact ren_zeroCells.symm
    | cons a vs => rfl
  | box t x =>
    match vs with
    | [v] => simp only [List.map_cons, List.map_nil]; exact ren_cells' v
    | [] => rfl
    | _ :: _ :: _ => rfl
  | _ => rfl
end
end
end Go.Eng
