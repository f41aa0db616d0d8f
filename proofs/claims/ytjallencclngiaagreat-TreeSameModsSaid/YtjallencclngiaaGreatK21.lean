import Derived.Test.YtjallencclngiaaGreatK16
open Go Go.Eng
namespace Go.Proofs
set_option maxRecDepth 100000
set_option linter.unusedVariables false

/-- A node of any of the eight kinds: its type's number, its numbers, its texts, its paths, its lists of nodes. -/
inductive Nd where
  | mk (ty : Nat) (i : List Int) (s : List ByteArray) (p : List (List ByteArray)) (c : List (List Nd))

/-- What is compared of it. -/
inductive Ky where
  | mk (ty : Nat) (i : List Int) (s : List ByteArray) (p : List (List ByteArray)) (c : List (List Ky))

def keyI (t : Nat) (i : List Int) : List Int := if t = 53 ∨ t = 111 then i.take 1 else i

mutual
def Nd.key : Nd → Ky
  | .mk t i s p c => .mk t (keyI t i) s p (Nd.keyss c)
def Nd.keys : List Nd → List Ky
  | [] => []
  | x :: l => x.key :: Nd.keys l
def Nd.keyss : List (List Nd) → List (List Ky)
  | [] => []
  | l :: r => Nd.keys l :: Nd.keyss r
end

def sN (n : Int) : AV := .val (.int .i64 n)
def sS (s : ByteArray) : AV := .val (.string s)
def sL (sz : Nat) (l : List (List AV)) : AV := .slice sz l .no

def arrange : Nat → List Int → List ByteArray → List (List (List AV)) → List (List (List AV)) → List AV
  | 28, [k], [n], [p], [a] => [sN k, sS n, sL 1 p, sL 4 a]
  | 25, [k, m], [n], [p], [a] => [sN k, sS n, sL 1 p, sN m, sL 5 a]
  | 47, [k, o, n], [], [p], [a, b, c, d] => [sN k, sN o, sN n, sL 1 p, sL 5 a, sL 8 b, sL 9 c, sL 4 d]
  | 53, [k, o], [n], [p], [a, b, c, d, e] => [sN k, sN o, sS n, sL 1 p, sL 4 a, sL 8 b, sL 2 c, sL 5 d, sL 5 e]
  | 70, [], [n], [], [a] => [sS n, sL 4 a]
  | 74, [k], [], [p], [a, b, c] => [sN k, sL 1 p, sL 9 a, sL 5 b, sL 5 c]
  | 79, [k], [], [p], [a, b, c] => [sN k, sL 1 p, sL 6 a, sL 5 b, sL 4 c]
  | 111, [k, o], [n], [], [a, b, c] => [sN k, sN o, sS n, sL 4 a, sL 2 b, sL 5 c]
  | _, _, _, _, _ => []

mutual
def Nd.row : Nd → List AV
  | .mk t i s p c => arrange t i s (p.map strs) (Nd.rowss c)
def Nd.rows : List Nd → List (List AV)
  | [] => []
  | x :: l => x.row :: Nd.rows l
def Nd.rowss : List (List Nd) → List (List (List AV))
  | [] => []
  | l :: r => Nd.rows l :: Nd.rowss r
end

def kidTys : Nat → List Nat
  | 28 => [28]
  | 25 => [25]
  | 47 => [25, 47, 53, 28]
  | 53 => [28, 47, 70, 74, 79]
  | 70 => [28]
  | 74 => [53, 74, 79]
  | 79 => [111, 79, 28]
  | 111 => [28, 70, 79]
  | _ => []
/-- How many numbers, texts, paths. -/
def lens : Nat → Nat × Nat × Nat
  | 28 => (1, 1, 1)
  | 25 => (2, 1, 1)
  | 47 => (3, 0, 1)
  | 53 => (2, 1, 1)
  | 70 => (0, 1, 0)
  | 74 => (1, 0, 1)
  | 79 => (1, 0, 1)
  | 111 => (2, 1, 0)
  | _ => (0, 0, 0)

mutual
/-- It is of that type throughout; no list is too long. -/
def Nd.wt : Nd → Nat → Prop
  | .mk t i s p c, e => t = e ∧ (i.length, s.length, p.length) = lens e ∧ (∀ l ∈ p, Few l) ∧ Nd.wtss c (kidTys e)
def Nd.wts : List Nd → Nat → Prop
  | [], _ => True
  | x :: l, e => x.wt e ∧ Nd.wts l e
def Nd.wtss : List (List Nd) → List Nat → Prop
  | [], [] => True
  | l :: r, e :: es => Few l ∧ Nd.wts l e ∧ Nd.wtss r es
  | _, _ => False
end

theorem Nd.rows_map : ∀ l : List Nd, Nd.rows l = l.map Nd.row
  | [] => by rw [Nd.rows]; rfl
  | t :: l => by rw [Nd.rows, Nd.rows_map l]; rfl
theorem Nd.keys_map : ∀ l : List Nd, Nd.keys l = l.map Nd.key
  | [] => by rw [Nd.keys]; rfl
  | t :: l => by rw [Nd.keys, Nd.keys_map l]; rfl
theorem Nd.wts_all : ∀ {l : List Nd} {e : Nat}, Nd.wts l e ↔ ∀ x ∈ l, x.wt e
  | [], e => by rw [Nd.wts]; simp
  | t :: l, e => by rw [Nd.wts, Nd.wts_all (l := l)]; simp
theorem Nd.rows_len (l : List Nd) : (Nd.rows l).length = l.length := by rw [Nd.rows_map, List.length_map]
theorem Nd.rows_at {l : List Nd} {i : Nat} {x : Nd} (h : l[i]? = some x) : (Nd.rows l)[i]? = some x.row := by rw [Nd.rows_map]; exact map_at h

theorem Nd.lt {t : Nat} {i : List Int} {s : List ByteArray} {p : List (List ByteArray)} {c : List (List Nd)} {l : List Nd} {x : Nd} (hl : l ∈ c) (hx : x ∈ l) : SizeOf.sizeOf x < SizeOf.sizeOf (Nd.mk t i s p c) := by
  have h1 := List.sizeOf_lt_of_mem hl
  have h2 := List.sizeOf_lt_of_mem hx
  simp only [Nd.mk.sizeOf_spec]
  omega

noncomputable def dq {α : Type} (a b : α) : Bool := @decide (a = b) (Classical.propDecidable _)
theorem dq_iff {α : Type} {a b : α} : dq a b = true ↔ a = b := by unfold dq; simp
theorem dq_not {α : Type} {a b : α} : dq a b = false ↔ ¬ a = b := by unfold dq; simp

theorem all2_dq {α β : Type} {f : α → β} : ∀ (l m : List α), all2 (fun x y => dq (f x) (f y)) l m = dq (l.map f) (m.map f) := by
  intro l
  induction l with
  | nil => intro m; cases m with
    | nil => simp [all2, dq]
    | cons y m => simp [all2, dq]
  | cons x l ih => intro m; cases m with
    | nil => simp [all2, dq]
    | cons y m =>
      simp only [all2, ih m, List.map_cons]
      rw [Bool.eq_iff_iff]
      simp [dq_iff]

theorem seqs_dq (p q : List ByteArray) : seqs p q = dq p q := by
  have := all2_dq (f := fun x : ByteArray => x) p q
  simp only [List.map_id'] at this
  rw [← this]
  unfold seqs
  exact all2_congr fun x _ y _ => by rw [Bool.eq_iff_iff]; simp [dq_iff]

def lfOf (r : List AV) : Lf :=
  ⟨fun _ => false, fun j => match r.getD j .any with | .val (.int _ n) => n | _ => 0, fun j => match r.getD j .any with | .val (.string s) => s | _ => ByteArray.empty,
    fun j => match r.getD j .any with | .slice _ l _ => l | _ => [], fun _ => .any⟩
end Go.Proofs
