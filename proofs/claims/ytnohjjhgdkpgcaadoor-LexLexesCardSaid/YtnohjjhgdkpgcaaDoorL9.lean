/- LEX: two like tokens are not unlike (struct equality of the model) -/
import Derived.Test.YtnohjjhgdkpgcaaDoorL7
open Go Go.Eng Go.Lx
namespace Go.Proofs
set_option linter.unusedVariables false
set_option linter.unusedSimpArgs false
set_option maxRecDepth 100000

theorem semVal_bind {α β : Type} (P : Program) (s : Sem α) (f : α → Sem β) : semVal P (s >>= f) = (semVal P s).bind fun a => semVal P (f a) := by
  show semVal P (Sem.bind s f) = _
  induction s with
  | pure a => rfl
  | program k ih => simp only [Sem.bind, semVal]; exact ih _
  | mark m k ih => simp only [Sem.bind, semVal]; exact ih
  | _ => rfl
theorem semVal_pure {α : Type} (P : Program) (a : α) : semVal P (pure a : Sem α) = some a := rfl
theorem sv_program (P : Program) : semVal P program = some P := rfl
theorem sv_underlying {P : Program} {t : TypeId} {d : TypeDesc} (h : P.underlying t = some d) : semVal P (underlying t) = some d := by
  unfold underlying
  rw [semVal_bind, sv_program]
  simp only [Option.bind_some, h]; rfl
theorem sv_int {P : Program} {d : Nat} {t : TypeId} {k : IntKind} {a : Int} (h : P.underlying t = some (.int k)) : semVal P (Op.equalIn (d + 1) t (.int k a) (.int k a)) = some true := by
  unfold Op.equalIn
  rw [semVal_bind, sv_underlying h]
  simp [semVal_pure]
theorem sv_str {P : Program} {d : Nat} {t : TypeId} {a : ByteArray} (h : P.underlying t = some .string) : semVal P (Op.equalIn (d + 1) t (.string a) (.string a)) = some true := by
  unfold Op.equalIn
  rw [semVal_bind, sv_underlying h]
  simp [semVal_pure]
  rw [beq_toListBytes]; simp
theorem sv_struct {P : Program} (d : Nat) (t : TypeId) (xs ys : Array Value) {fs : Array Field} (ht : P.underlying t = some (.struct fs)) (hp : P.stoodInHeld t = false) :
    semVal P (Op.equalIn (d + 1) t (.agg xs) (.agg ys)) = semVal P (Op.eqFields d xs ys fs.toList) := by
  simp only [Op.equalIn, semVal_bind, sv_underlying ht, Option.bind_some, sv_program, hp, Bool.false_eq_true, if_false]
  rw [← Array.forIn_toList]
  generalize fs.toList = fs
  clear ht
  induction fs with
  | nil => simp [Op.eqFields, semVal_pure, semVal_bind]
  | cons f fs ih =>
    simp only [List.forIn_cons, Op.eqFields, semVal_bind]
    split
    · simp only [semVal_bind]
      generalize semVal P (part f.type xs f.offset) = r1
      cases r1 with
      | none => rfl
      | some a =>
        simp only [Option.bind_some]
        generalize semVal P (part f.type ys f.offset) = r2
        cases r2 with
        | none => rfl
        | some b =>
          simp only [Option.bind_some]
          generalize semVal P (Op.equalIn d f.type a b) = r3
          cases r3 with
          | none => rfl
          | some r =>
            cases r
            · simp [semVal_pure]
            · simp only [Option.bind_some, Bool.not_true, Bool.false_eq_true, if_false, semVal_pure]
              exact ih
    · simp only [semVal_pure, Option.bind_some]
      exact ih

theorem tok_refl (x y : Operand) (t : Tok) : abin Pg .neq y_waferref03_Token x y (.agg (tokRow t)) (.agg (tokRow t)) = some (vB false) := by
  have h1 : semVal Pg (Op.equalIn 10000 32 (.agg #[.int .i64 t.kind, .string ⟨t.text.toArray⟩, .int .i64 t.n, .int .i64 t.at_]) (.agg #[.int .i64 t.kind, .string ⟨t.text.toArray⟩, .int .i64 t.n, .int .i64 t.at_])) = some true := by
    rw [sv_struct 9999 32 _ _ Tryd.underlying32 (by kernel_rfl)]
    have p0 : ∀ (k n a : Int) (s : ByteArray), semVal Pg (part 3 #[.int .i64 k, .string s, .int .i64 n, .int .i64 a] 0) = some (.int .i64 k) := fun _ _ _ _ => by kernel_rfl
    have p1 : ∀ (k n a : Int) (s : ByteArray), semVal Pg (part 9 #[.int .i64 k, .string s, .int .i64 n, .int .i64 a] 1) = some (.string s) := fun _ _ _ _ => by kernel_rfl
    have p2 : ∀ (k n a : Int) (s : ByteArray), semVal Pg (part 2 #[.int .i64 k, .string s, .int .i64 n, .int .i64 a] 2) = some (.int .i64 n) := fun _ _ _ _ => by kernel_rfl
    have p3 : ∀ (k n a : Int) (s : ByteArray), semVal Pg (part 3 #[.int .i64 k, .string s, .int .i64 n, .int .i64 a] 3) = some (.int .i64 a) := fun _ _ _ _ => by kernel_rfl
    have i3 : ∀ n : Int, semVal Pg (Op.equalIn 9999 3 (.int .i64 n) (.int .i64 n)) = some true := fun n => sv_int (d := 9998) Tryd.underlying3
    have i2 : ∀ n : Int, semVal Pg (Op.equalIn 9999 2 (.int .i64 n) (.int .i64 n)) = some true := fun n => sv_int (d := 9998) Tryd.underlying2
    have i9 : ∀ n : ByteArray, semVal Pg (Op.equalIn 9999 9 (.string n) (.string n)) = some true := fun n => sv_str (d := 9998) Tryd.underlying9
    have ne : ∀ x : String, x ≠ "_" → ∀ (a b : Sem Bool), (if x ≠ "_" then a else b) = a := fun x hx a b => if_pos hx
    simp only [Op.eqFields]
    rw [ne _ (by decide), semVal_bind, p0, Option.bind_some, semVal_bind, p0, Option.bind_some, semVal_bind, i3, Option.bind_some]
    rw [if_neg (by decide), ne _ (by decide), semVal_bind, p1, Option.bind_some, semVal_bind, p1, Option.bind_some, semVal_bind, i9, Option.bind_some]
    rw [if_neg (by decide), ne _ (by decide), semVal_bind, p2, Option.bind_some, semVal_bind, p2, Option.bind_some, semVal_bind, i2, Option.bind_some]
    rw [if_neg (by decide), ne _ (by decide), semVal_bind, p3, Option.bind_some, semVal_bind, p3, Option.bind_some, semVal_bind, i3, Option.bind_some]
    rw [if_neg (by decide)]; rfl
  have h2 : semVal Pg (do eqGuard .neq y_waferref03_Token x y (.agg #[.int .i64 t.kind, .string ⟨t.text.toArray⟩, .int .i64 t.n, .int .i64 t.at_]) (.agg #[.int .i64 t.kind, .string ⟨t.text.toArray⟩, .int .i64 t.n, .int .i64 t.at_]); binOp .neq y_waferref03_Token (.agg #[.int .i64 t.kind, .string ⟨t.text.toArray⟩, .int .i64 t.n, .int .i64 t.at_]) (.agg #[.int .i64 t.kind, .string ⟨t.text.toArray⟩, .int .i64 t.n, .int .i64 t.at_]) : Sem Value) = some (.bool false) := by
    rw [semVal_bind]
    have g : semVal Pg (eqGuard .neq y_waferref03_Token x y (.agg #[.int .i64 t.kind, .string ⟨t.text.toArray⟩, .int .i64 t.n, .int .i64 t.at_]) (.agg #[.int .i64 t.kind, .string ⟨t.text.toArray⟩, .int .i64 t.n, .int .i64 t.at_])) = some () := by kernel_rfl
    rw [g]
    show semVal Pg (do let b ← Op.equalIn 10000 32 (.agg #[.int .i64 t.kind, .string ⟨t.text.toArray⟩, .int .i64 t.n, .int .i64 t.at_]) (.agg #[.int .i64 t.kind, .string ⟨t.text.toArray⟩, .int .i64 t.n, .int .i64 t.at_]); pure (.bool (!b)) : Sem Value) = _
    rw [semVal_bind, h1]; rfl
  unfold abin
  simp only [tokRow, vI, vS, AV.toVal, cellsVal, Option.map_some]
  rw [h2]; rfl
end Go.Proofs
