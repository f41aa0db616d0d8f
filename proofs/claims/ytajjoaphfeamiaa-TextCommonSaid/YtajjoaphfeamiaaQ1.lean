/- Texts of this proof folded into one: E1 E2 E3 E4 E5 E6 E7 E8 E9 E10 E11. -/
import Derived.Calls
import Derived.Defers
import Derived.Recover
import Derived.Orders
import Derived.Laws.Sem
import Derived.Laws.AppendOwn
import Derived.Laws.CopyRow
import Derived.Laws.Entries
import Derived.ChangeKeysEq
import Derived.Laws.Slices
import Derived.Laws.BytesString
import Derived.Laws.Tables
section
/-
  THE ENGINE, part 1: an abstract interpreter of the model's code over values without addresses (the definitions alone).
  Slices are lists of rows, structs are lists of cells, boxes that nobody writes are their content; what is written lies in a heap of its own, by number.
  Nothing here speaks of one program.
-/
set_option linter.unusedVariables false
set_option linter.unusedSimpArgs false
namespace Go.Eng

/-- What is known of a slice's spare places: nothing; that there are none; that they are this value's own. -/
inductive Own | no | full | yes
  deriving DecidableEq, Repr, Inhabited

/-- Abstract values. 'any': nothing is known. 'ref': a pointer to cells that nobody writes. 'ptr': into the heap. 'lp': into a frame's own variable, by its slot. -/
inductive AV where
  | any
  | val (v : Value)
  | slice (sz : Nat) (rows : List (List AV)) (own : Own)
  | ref (cells : List AV)
  | ptr (id off : Nat)
  | lp (t gen off : Nat)
  | func (fn : Fn) (first captured : List AV)
  | iface (t : TypeId) (v : AV)
  | agg (cells : List AV)
  | tuple (vs : List AV)
  deriving Inhabited

abbrev Heap := List (List AV)

/-- What is told of a function: which of its variables' blocks nobody writes (imm), which stay in the frame (loc), which slots take a slice with its spare places (mv), which parameters do (takes); at the loop in a block: the slots that are alive. Bit by bit. -/
structure FCfg where
  imm : Nat := 0
  loc : Nat := 0
  mv : Nat := 0
  takes : Nat := 0
  live : List (Nat × Nat) := []
  ext : Bool := false
  norm : Bool := false
  deriving Inhabited

/-- How the frame that is called stands to its caller: called plainly; as a deferred call while the caller returns; or while it panics (recovered or not). -/
inductive RM where
  | none
  | returning
  | panicking (v : AV) (recovered : Bool)
  deriving Inhabited

inductive Out where
  | ret (v : AV)
  | panic (v : AV)
  deriving Inhabited

structure CRes where
  out : Out
  rm : RM
  H : Heap
  deriving Inhabited

structure ADef where
  f : FuncId
  args : List AV
  deriving Inhabited

/-- What a frame shares with others, and its deferred calls; how many blocks there were where it began. -/
structure G where
  H : Heap
  defers : List ADef
  rm : RM
  base : Nat
  deriving Inhabited

/-- A frame's own variable: how often it was made, its cells. -/
abbrev LCell := Nat × List AV

/-- A frame at work. -/
structure St where
  tmps : List AV
  lh : List (Option LCell)
  g : G
  deriving Inhabited

/-- A computation that asks neither memory nor draws. -/
def semVal (P : Program) {α : Type} : Sem α → Option α
  | .pure a => some a
  | .program k => semVal P (k P)
  | .mark _ k => semVal P k
  | _ => none

def ofCell : Value → AV
  | .slice none 0 0 => .slice 0 [] .full
  | .func fn f c => .func fn (f.toList.map .val) (c.toList.map .val)
  | v => .val v

def ofVal : Value → AV
  | .agg cs => if cs.toList.all Value.oneCell' = true then .agg (cs.toList.map ofCell) else .val (.agg cs)
  | v => ofCell v

def AV.dis : AV → AV
  | .slice sz rows .yes => .slice sz rows .no
  | v => v

/-- The cells of a value that lies in memory. -/
def AV.cells : AV → Option (List AV)
  | .agg cs => some cs
  | .any => none
  | .lp _ _ _ => none
  | .tuple _ => none
  | .val v => match v with | .agg _ => none | .tuple _ => none | v => some [.val v]
  | v => some [v]

/-- The cells of a value that is stored: a slice alone takes its spare places along. -/
def AV.scells (v : AV) : Option (List AV) :=
  match v with
  | .slice sz rows own => some [.slice sz rows own]
  | v => v.cells.map (·.map AV.dis)

def cellsVal : List AV → Option (List Value)
  | [] => some []
  | .val v :: l => (cellsVal l).map (v :: ·)
  | _ :: _ => none

/-- The value itself, where it holds no address. -/
def AV.toVal : AV → Option Value
  | .val v => some v
  | .agg cs => (cellsVal cs).map fun l => .agg l.toArray
  | .iface t (.val v) => some (.iface t v)
  | _ => none

def AV.isLp : AV → Bool
  | .lp _ _ _ => true
  | _ => false

def aeval (s : List AV) : Operand → AV
  | .tmp t => s.getD t .any
  | .const v => ofVal v
  | .global g => .val (.pointer (some ⟨g, 0, none⟩))
  | .func f => .func (.func f) [] []

section
variable (P : Program)

def zeroCells (t : TypeId) : Option (List AV) :=
  match (P.info? t).bind (·.zero) with
  | some v => if v.cells.toList.all Value.oneCell' = true then some (v.cells.toList.map ofCell) else none
  | none => none
def size? (t : TypeId) : Option Nat := (P.info? t).map (·.size)
def isAgg? (t : TypeId) : Option Bool := (P.underlying t).map fun | .struct _ => true | .array _ _ => true | _ => false

/-- What a variable of a type holds, out of its cells from an offset on. -/
def readCells (t : TypeId) (cs : List AV) (off : Nat) : Option AV :=
  match isAgg? P t with
  | some true => match size? P t with
    | some n => if off + n ≤ cs.length then some (.agg (((cs.drop off).take n).map AV.dis)) else none
    | none => none
  | some false => (cs[off]?).map AV.dis
  | none => none

def writeCells (cs : List AV) (off : Nat) : List AV → List AV
  | [] => cs
  | v :: r => writeCells (cs.set off v) (off + 1) r

/-- The places of a struct's or an array's parts. -/
def place? (t : TypeId) (i : Nat) : Option (Nat × Nat) :=
  match P.underlying t with
  | some (.struct fs) => (fs[i]?).bind fun f => (size? P f.type).map fun n => (f.offset, n)
  | some (.array _ e) => (size? P e).map fun n => (i * n, n)
  | some (.slice e) => (size? P e).map fun n => (i * n, n)
  | _ => none

def fillA (t : TypeId) (cells : List AV) : List (Nat × AV) → Option (List AV)
  | [] => some cells
  | (i, v) :: rest =>
    match place? P t i, v.cells with
    | some (off, n), some cs => if cs.length = n ∧ off + n ≤ cells.length then fillA t (writeCells cells off (cs.map AV.dis)) rest else none
    | _, _ => none

def chunks (sz : Nat) : Nat → List AV → List (List AV)
  | 0, _ => []
  | n + 1, l => l.take sz :: chunks sz n (l.drop sz)

def repeatCells (zero : List AV) (n : Nat) : List AV := (List.replicate n zero).flatten

/-- Is a value the nil of its kind? -/
def AV.isNil : AV → Option Bool
  | .val (.pointer none) => some true
  | .val .nilIface => some true
  | .val .nilFunc => some true
  | .ref _ => some false
  | .ptr _ _ => some false
  | .lp _ _ _ => some false
  | .func _ _ _ => some false
  | .iface _ _ => some false
  | _ => none

def isPtrNil (P : Program) (t : TypeId) (a b : AV) : Option Bool :=
  match P.underlying t, a, b with
  | some (.pointer _), .val (.pointer none), .ref _ => some false
  | some (.pointer _), .val (.pointer none), .ptr _ _ => some false
  | some (.pointer _), .val (.pointer none), .lp _ _ _ => some false
  | some (.pointer _), .ref _, .val (.pointer none) => some false
  | some (.pointer _), .ptr _ _, .val (.pointer none) => some false
  | some (.pointer _), .lp _ _ _, .val (.pointer none) => some false
  | some (.interface _), .iface _ _, .val .nilIface => some false
  | some (.interface _), .val .nilIface, .iface _ _ => some false
  | some (.func ..), .func _ _ _, .val .nilFunc => some false
  | some (.func ..), .val .nilFunc, .func _ _ _ => some false
  | _, _, _ => none

def abin (op : BinOp) (t : TypeId) (x y : Operand) (a b : AV) : Option AV :=
  match a.toVal, b.toVal with
  | some va, some vb => (semVal P (do eqGuard op t x y va vb; binOp op t va vb)).map ofVal
  | _, _ => match op with
    | .eql => (isPtrNil P t a b).map fun r => .val (.bool r)
    | .neq => (isPtrNil P t a b).map fun r => .val (.bool (!r))
    | _ => none

def bytesOfRows : List (List AV) → Option (List UInt8)
  | [] => some []
  | [.val (.int .u8 n)] :: r => (bytesOfRows r).map (UInt8.ofNat n.toNat :: ·)
  | _ :: _ => none

def aconvert (src dst : TypeId) (a : AV) : Option AV :=
  match a with
  | .val v => (semVal P (convert src dst v)).map ofVal
  | .slice _ rows _ => match P.underlying src, P.underlying dst with
    | some (.slice e), some .string => match P.underlying e, bytesOfRows rows with
      | some (.int .u8), some l => some (.val (.string ⟨l.toArray⟩))
      | _, _ => none
    | _, _ => none
  | _ => none

def intOf? : AV → Option (IntKind × Int)
  | .val (.int k n) => some (k, n)
  | _ => none

def bound? (x : Option AV) (dflt most : Nat) : Option Nat :=
  match x with
  | none => some dflt
  | some (.val (.int _ i)) => if 0 ≤ i ∧ i ≤ (most : Int) then some i.toNat else none
  | _ => none

def aslice (t : TypeId) (a : AV) (lo hi mx : Option AV) : Option AV :=
  match P.underlying t, a with
  | some .string, .val (.string s) =>
    match mx, bound? hi s.size s.size with
    | none, some h => match bound? lo 0 h with
      | some l => some (.val (.string (s.extract l h)))
      | none => none
    | _, _ => none
  | some (.slice e), .slice sz rows own => match size? P e with
    | some n => if rows = [] ∨ n = sz then match mx with
        | none => match bound? hi rows.length rows.length with
          | some h => match bound? lo 0 h with
            | some l => some (.slice sz ((rows.drop l).take (h - l)) (if h = rows.length ∧ own = .full then .full else .no))
            | none => none
          | none => none
        | some m => match hi with
          | none => none
          | some hi => match bound? (some m) 0 rows.length with
            | some m => match bound? (some hi) 0 m with
              | some h => match bound? lo 0 h with
                | some l => some (.slice sz ((rows.drop l).take (h - l)) (if h = m then .full else .no))
                | none => none
              | none => none
            | none => none
      else none
    | none => none
  | _, _ => none

def afieldAddr (t : TypeId) (a : AV) (i : Nat) : Option AV :=
  match P.underlying t with
  | some (.struct fs) => match fs[i]? with
    | some f => match size? P f.type with
      | some (_ + 1) => match a with
        | .ref cs => if f.offset ≤ cs.length then some (.ref (cs.drop f.offset)) else none
        | .ptr id o => some (.ptr id (o + f.offset))
        | .lp t g o => some (.lp t g (o + f.offset))
        | _ => none
      | _ => none
    | none => none
  | _ => none

def partA (t : TypeId) (cs : List AV) (off : Nat) : Option AV := readCells P t cs off

def afield (t : TypeId) (a : AV) (i : Nat) : Option AV :=
  match P.underlying t, a with
  | some (.struct fs), .agg cs => match fs[i]? with
    | some f => partA P f.type cs f.offset
    | none => none
  | _, _ => none

def aindexAddr (t : TypeId) (a ix : AV) : Option AV :=
  match P.underlying t, ix with
  | some (.slice e), .val (.int _ i) => match a with
    | .slice sz rows _ => if 0 ≤ i then match rows[i.toNat]? with
        | some r => if size? P e = some sz then some (.ref r) else none
        | none => none
      else none
    | _ => none
  | some (.array len e), .val (.int _ i) => if 0 ≤ i ∧ i < (len : Int) then match size? P e with
      | some n => match a with
        | .ref cs => if i.toNat * n ≤ cs.length then some (.ref (cs.drop (i.toNat * n))) else none
        | .ptr id o => some (.ptr id (o + i.toNat * n))
        | .lp t g o => some (.lp t g (o + i.toNat * n))
        | _ => none
      | none => none
    else none
  | _, _ => none

def aindex (t : TypeId) (a ix : AV) : Option AV :=
  match P.underlying t, a, ix with
  | some (.array len e), .agg cs, .val (.int _ i) => if 0 ≤ i ∧ i < (len : Int) then match size? P e with
      | some n => partA P e cs (i.toNat * n)
      | none => none
    else none
  | some .string, .val (.string s), .val (.int _ i) => if 0 ≤ i then (s[i.toNat]?).map fun b => .val (.int .u8 b.toNat) else none
  | _, _, _ => none

def atypeAssert (a : AV) (asserted : TypeId) (ok : Bool) : Option AV :=
  let fails : Option AV := if ok then match (P.info? asserted).bind (·.zero) with
      | some z => some (.tuple [ofVal z, .val (.bool false)])
      | none => none
    else none
  match P.underlying asserted with
  | some (.interface _) => none
  | none => none
  | some _ => match a with
    | .iface t v => if t = asserted then some (if ok then .tuple [v, .val (.bool true)] else v.dis) else fails
    | .val .nilIface => fails
    | _ => none

def alen (t : TypeId) (a : AV) : Option AV :=
  match P.underlying t, a with
  | some (.slice _), .slice _ rows _ => some (.val (.int .i64 rows.length))
  | some .string, .val (.string s) => some (.val (.int .i64 s.size))
  | _, _ => none

/-- The rows that a value appends. -/
def newRows : AV → Option (Nat × List (List AV))
  | .slice sz rows _ => some (sz, rows)
  | .val (.string s) => some (1, s.data.toList.map fun b => [.val (.int .u8 b.toNat)])
  | _ => none

def aappend (ts : Array TypeId) (a b : AV) : Option AV :=
  match ts[0]?, ts[1]? with
  | some st, some xt => match P.underlying st, P.underlying xt with
    | some (.slice e), some xd => match xd with
      | .int _ => none
      | _ => match a, newRows b, P.info? e with
        | .slice sz rows own, some (sz', new), some i =>
          if new = [] then some (.slice sz rows own)
          else if (sz = i.size ∨ (rows = [] ∧ own = .full)) ∧ sz' = i.size ∧ own ≠ .no ∧ rows.length + new.length ≤ 2147483648 ∧ i.bytes ≤ 4096 ∧ i.zero.map (·.cells.size) = some i.size then
            some (.slice i.size (rows ++ new.map (·.map AV.dis)) .yes)
          else none
        | _, _, _ => none
    | _, _ => none
  | _, _ => none

def amakeSlice (t : TypeId) (len cap : AV) : Option AV :=
  match P.underlying t, len, cap with
  | some (.slice e), .val (.int _ l), .val (.int _ c) => match P.info? e with
    | some i => match i.zero with
      | some z => if 0 ≤ l ∧ l ≤ c ∧ c ≤ 2147483648 ∧ i.bytes ≤ 4096 ∧ 0 < i.size ∧ z.cells.size = i.size ∧ z.cells.toList.all Value.oneCell' = true then
          some (.slice i.size (List.replicate l.toNat (z.cells.toList.map ofCell)) (if l = c then .full else .yes))
        else none
      | none => none
    | none => none
  | _, _, _ => none

def allVals : List AV → Option (List Value)
  | [] => some []
  | a :: r => match a.toVal, allVals r with
    | some v, some l => some (v :: l)
    | _, _ => none

end


inductive Cls where
  | pure
  | loc (l : Nat) (write : Bool)
  | glob (write : Bool)
  deriving Inhabited

inductive GR where
  | val (v : AV) (g : G)
  | panic (v : AV) (g : G)
  deriving Inhabited

section
variable (P : Program) (cfg : FuncId → FCfg) (call : FuncId → List AV → RM → Heap → Option CRes)

def dstBit (m : Nat) (d : Option Tmp) : Bool :=
  match d with
  | some t => m.testBit t
  | none => false

def takesOf (m : Nat) : Nat → List Operand → List Bool
  | _, [] => []
  | i, _ :: r => m.testBit i :: takesOf m (i + 1) r

/-- Which operands are taken with their spare places. -/
def moves (f : FuncId) (o : Oper) : List Bool :=
  match o.op with
  | .move _ => [dstBit (cfg f).mv o.dst]
  | .assign _ => [dstBit (cfg f).mv o.dst]
  | .store _ _ _ => [false, true]
  | .call c => match c.callee with
    | .builtin .append => [true]
    | .value (.func g) => false :: takesOf (cfg g).takes 0 c.args.toList
    | _ => []
  | _ => []

/-- The operands' values; what is left where they were. -/
def vals (s : List AV) : List Operand → List Bool → List AV
  | [], _ => []
  | x :: r, b :: bs => (if b then aeval s x else (aeval s x).dis) :: vals s r bs
  | x :: r, [] => (aeval s x).dis :: vals s r []

def disT (s : List AV) : List Operand → List Bool → List AV
  | .tmp t :: r, true :: bs => disT (s.modify t AV.dis) r bs
  | _ :: r, _ :: bs => disT s r bs
  | _, _ => s

def movedTmps : List Operand → List Bool → List Tmp
  | .tmp t :: r, true :: bs => t :: movedTmps r bs
  | _ :: r, _ :: bs => movedTmps r bs
  | _, _ => []

def acls (f : FuncId) (o : Oper) (vs : List AV) : Cls :=
  match o.op with
  | .alloc _ | .box _ _ => match o.dst with
    | some t => if (cfg f).imm.testBit t then .pure else if (cfg f).loc.testBit t then .loc t true else .glob true
    | none => .glob true
  | .load _ _ => match vs with
    | [.ptr _ _] => .glob (dstBit (cfg f).mv o.dst)
    | [.lp l _ _] => .loc l (dstBit (cfg f).mv o.dst)
    | _ => .pure
  | .store _ _ _ => match vs with
    | .lp l _ _ :: _ => .loc l true
    | _ => .glob true
  | .call c => match c.callee with
    | .builtin .recover => .glob true
    | .builtin _ => .pure
    | _ => .glob true
  | .defer _ => .glob true
  | .panic _ => .glob true
  | _ => .pure

/-- The cells of a block that is made. -/
def newCells (o : Oper) (vs : List AV) : Option (List AV) :=
  match o.op, vs with
  | .alloc e, [] => zeroCells P e
  | .box _ _, [v] => v.cells.map (·.map AV.dis)
  | _, _ => none

def zipParts {α : Type} : List (Nat × α) → List AV → List (Nat × AV)
  | (i, _) :: r, v :: vs => (i, v) :: zipParts r vs
  | _, _ => []

def abuiltin (o : Oper) (b : Builtin) (ts : Array TypeId) (vs : List AV) : Option AV :=
  match b, vs with
  | .len, [x] => match ts[0]? with
    | some t => alen P t x
    | none => none
  | .append, [x, y] => aappend P ts x y
  | .max, l => match allVals l with
    | some vs => (semVal P (Builtin.max_ ts o.type vs.toArray)).map ofVal
    | none => none
  | .min, l => match allVals l with
    | some vs => (semVal P (Builtin.min_ ts o.type vs.toArray)).map ofVal
    | none => none
  | _, _ => none

def abuildSlice (t : TypeId) (n : Nat) (ps : List (Nat × AV)) : Option AV :=
  match P.underlying t with
  | some (.slice e) => match P.info? e with
    | some i => match i.zero with
      | some z => if z.cells.size = i.size ∧ 0 < i.size ∧ n * i.size ≤ 16777216 ∧ z.cells.toList.all Value.oneCell' = true then
          (fillA P t (repeatCells (z.cells.toList.map ofCell) n) ps).map fun cs => .slice i.size (chunks i.size n cs) .full
        else none
      | none => none
    | none => none
  | _ => none

def abuild (t : TypeId) (ps : List (Nat × AV)) : Option AV :=
  match P.underlying t with
  | some (.struct fs) => if fs.toList.all (fun f => (size? P f.type).isSome) = true then match zeroCells P t with
      | some z => (fillA P t z ps).map .agg
      | none => none
    else none
  | some (.array _ e) => match zeroCells P t, size? P e with
    | some z, some _ => (fillA P t z ps).map .agg
    | _, _ => none
  | _ => none

def anilCheck : AV → Option AV
  | .ref cs => some (.ref cs)
  | .ptr id k => some (.ptr id k)
  | .lp t g k => some (.lp t g k)
  | .func (.func g) a b => some (.func (.func g) a b)
  | _ => none

def amakeInterface (t : TypeId) (v : AV) : Option AV :=
  match P.underlying t with
  | some (.interface _) => none
  | none => none
  | some _ => if v.isLp then none else some (.iface t v)

def aextract (v : AV) (i : Nat) : Option AV :=
  match v with
  | .tuple vs => (vs[i]?).map AV.dis
  | .val (.tuple vs) => (vs[i]?).map ofVal
  | _ => none

def apure (o : Oper) (vs : List AV) : Option AV :=
  match o.op, vs with
  | .move _, [v] => some v
  | .assign _, [v] => some v
  | .pick _ _ _, [c, a, b] => match c with
    | .val (.bool true) => some a
    | .val (.bool false) => some b
    | _ => none
  | .alloc _, _ => (newCells P o vs).map .ref
  | .box _ _, _ => (newCells P o vs).map .ref
  | .build t ps, vs => if vs.any AV.isLp then none else abuild P t (zipParts ps.toList vs)
  | .buildSlice t n ps, vs => if vs.any AV.isLp then none else abuildSlice P t n (zipParts ps.toList vs)
  | .load t _, [.ref cs] => readCells P t cs 0
  | .nilCheck _, [v] => anilCheck v
  | .binOp op t x y _, [a, b] => abin P op t x y a b
  | .unOp op _ _, [v] => match v.toVal with
    | some w => (semVal P (Op.unary op w)).map ofVal
    | none => none
  | .convert a b _, [v] => aconvert P a b v
  | .makeInterface t _, [v] => amakeInterface P t v
  | .makeFunc fn a b, vs => if vs.any AV.isLp then none else some (.func fn (vs.take a.size) (vs.drop a.size))
  | .makeSlice t _ _, [l, c] => amakeSlice P t l c
  | .slice t _ l h m, x :: r =>
    let lo := if l.isSome then r.head? else none
    let r1 := if l.isSome then r.tail else r
    let hi := if h.isSome then r1.head? else none
    let r2 := if h.isSome then r1.tail else r1
    let mx := if m.isSome then r2.head? else none
    if l.isSome = lo.isSome ∧ h.isSome = hi.isSome ∧ m.isSome = mx.isSome ∧ (x :: r).any AV.isLp = false then aslice P t x lo hi mx else none
  | .fieldAddr t _ i, [v] => afieldAddr P t v i
  | .field t _ i, [v] => afield P t v i
  | .indexAddr t _ _, [v, i] => aindexAddr P t v i
  | .index t _ _, [v, i] => aindex P t v i
  | .typeAssert _ _ t ok, [v] => atypeAssert P v t ok
  | .extract _ i, [v] => aextract v i
  | .call c, vs => match c.callee with
    | .builtin b => abuiltin P o b c.argTypes vs
    | _ => none
  | _, _ => none

/-- What is done in a frame's own variable. -/
def aloc (f : FuncId) (o : Oper) (vs : List AV) (c : Option LCell) : Option (AV × Option LCell) :=
  match o.op, vs with
  | .alloc _, _ | .box _ _, _ => match o.dst, newCells P o vs with
    | some t, some cs => match c with
      | none => some (.lp t 0 0, some (0, cs))
      | some (g, _) => some (.lp t (g + 1) 0, some (g + 1, cs))
    | _, _ => none
  | .load t _, [.lp _ g off] => match c with
    | some (g', cs) => if g = g' then
        if dstBit (cfg f).mv o.dst then match isAgg? P t, cs[off]? with
          | some false, some v => some (v, some (g, cs.set off v.dis))
          | _, _ => none
        else (readCells P t cs off).map fun v => (v, some (g, cs))
      else none
    | none => none
  | .store t _ _, [.lp _ g off, v] => match c, v.scells, size? P t with
    | some (g', cs), some new, some n => if g = g' ∧ new.length = n ∧ off + n ≤ cs.length then
        some (.val undef, some (g, writeCells cs off new)) else none
    | _, _, _ => none
  | _, _ => none

def acallv (g : FuncId) (args : List AV) (m : G) : Option GR :=
  if args.any AV.isLp then none else
  match call g args .none m.H with
  | some ⟨.ret v, _, H⟩ => some (.val v { m with H := H })
  | some ⟨.panic v, _, H⟩ => some (.panic v { m with H := H })
  | none => none

def arecover (m : G) : Option GR :=
  match m.rm with
  | .none => none
  | .returning => some (.val (.val .nilIface) m)
  | .panicking v false => some (.val v.dis { m with rm := .panicking v true })
  | .panicking _ true => some (.val (.val .nilIface) m)

def aglob (f : FuncId) (o : Oper) (vs : List AV) (m : G) : Option GR :=
  match o.op, vs with
  | .alloc _, _ | .box _ _, _ => match newCells P o vs with
    | some cs => some (.val (.ptr m.H.length 0) { m with H := m.H ++ [cs] })
    | none => none
  | .load t _, [.ptr id off] => match m.H[id]? with
    | some cs => if dstBit (cfg f).mv o.dst then match isAgg? P t, cs[off]? with
        | some false, some v => some (.val v { m with H := m.H.set id (cs.set off v.dis) })
        | _, _ => none
      else (readCells P t cs off).map fun v => .val v m
    | none => none
  | .store t _ _, [.ptr id off, v] => match m.H[id]?, v.scells, size? P t with
    | some cs, some new, some n => if new.length = n ∧ off + n ≤ cs.length then
        some (.val (.val undef) { m with H := m.H.set id (writeCells cs off new) }) else none
    | _, _, _ => none
  | .call c, vs => match c.callee with
    | .builtin .recover => if vs = [] then arecover m else none
    | .value _ => match vs with
      | .func (.func g) first captured :: args => acallv call g (first.map AV.dis ++ args ++ captured.map AV.dis) m
      | _ => none
    | _ => none
  | .defer c, vs => match c.callee with
    | .value _ => match vs with
      | .func (.func g) first captured :: args => if (first ++ args ++ captured).any AV.isLp then none else some (.val (.val undef) { m with defers := ⟨g, (first ++ args ++ captured).map AV.dis⟩ :: m.defers })
      | _ => none
    | _ => none
  | .panic _, [.iface t v] => some (.panic (.iface t v) m)
  | _, _ => none

inductive SR where
  | next (s : St)
  | panic (v : AV) (s : St)
  deriving Inhabited

def putT (s : List AV) (d : Option Tmp) (v : AV) : List AV :=
  match d with
  | some t => s.set t v
  | none => s

def aop (f : FuncId) (o : Oper) (s : St) : Option SR :=
  let xs := o.op.operands.toList
  let ms := moves cfg f o
  let vs := vals s.tmps xs ms
  let ts := disT s.tmps xs ms
  if (movedTmps xs ms).Nodup then
    match acls cfg f o vs with
    | .pure => match apure P o vs with
      | some v => some (.next { s with tmps := putT ts o.dst v })
      | none => none
    | .loc l _ => match s.lh[l]? with
      | some c => match aloc P cfg f o vs c with
        | some (v, c') => some (.next { s with tmps := putT ts o.dst v, lh := s.lh.set l c' })
        | none => none
      | none => none
    | .glob _ => match aglob P cfg call f o vs s.g with
      | some (.val v g) => some (.next { s with tmps := putT ts o.dst v, g := g })
      | some (.panic v g) => some (.panic v { s with tmps := ts, g := g })
      | none => none
  else none

/-- The slot that a guard looks at. -/
def guardTmp (ops : Array Oper) (o : Oper) : Option Tmp :=
  match o.guard with
  | none => none
  | some (j, _) => (ops[j]?).bind (·.dst)

/-- Is an operation wanted (its guard)? -/
def wantedA (ops : Array Oper) (o : Oper) (ts : List AV) : Option Bool :=
  match o.guard with
  | none => some true
  | some (j, want) => match (ops[j]?).bind (·.dst) with
    | none => some false
    | some t => match ts[t]? with
      | none => some false
      | some (.val (.bool b)) => some (b == want)
      | some (.val _) => some false
      | some _ => none

def astep (f : FuncId) (ops : Array Oper) (o : Oper) (s : St) : Option SR :=
  match wantedA ops o s.tmps with
  | some true => aop P cfg call f o s
  | some false => some (.next { s with tmps := putT s.tmps o.dst (.val undef) })
  | none => none

inductive AX where
  | normal
  | exit (id : Nat)
  | ret
  | panic (v : AV)
  deriving Inhabited

/-- Operations of a region in an order. -/
def aops (f : FuncId) (ops : Array Oper) : List Nat → St → Option (AX × St)
  | [], s => some (.normal, s)
  | i :: r, s => match ops[i]? with
    | none => none
    | some o => match astep P cfg call f ops o s with
      | some (.next s') => aops f ops r s'
      | some (.panic v s') => some (.panic v, s')
      | none => none

/-- What an operation looks at and writes: a bit for what is shared (0), two bits for a slot t: 2 t + 1 its variable, 2 t + 2 its value. -/
def tmpBits : List Operand → Nat
  | [] => 0
  | .tmp t :: r => 2 ^ (2 * t + 2) ||| tmpBits r
  | _ :: r => tmpBits r

def optBit : Option Tmp → Nat
  | some t => 2 ^ (2 * t + 2)
  | none => 0

def listBits : List Tmp → Nat
  | [] => 0
  | t :: r => 2 ^ (2 * t + 2) ||| listBits r

def footR (f : FuncId) (ops : Array Oper) (o : Oper) (s : St) : Nat :=
  tmpBits o.op.operands.toList ||| optBit (guardTmp ops o) |||
    match wantedA ops o s.tmps with
    | some true => match acls cfg f o (vals s.tmps o.op.operands.toList (moves cfg f o)) with
      | .pure => 0
      | .loc l _ => 2 ^ (2 * l + 1)
      | .glob _ => 1
    | _ => 0

def footW (f : FuncId) (ops : Array Oper) (o : Oper) (s : St) : Nat :=
  optBit o.dst ||| listBits (movedTmps o.op.operands.toList (moves cfg f o)) |||
    match wantedA ops o s.tmps with
    | some true => match acls cfg f o (vals s.tmps o.op.operands.toList (moves cfg f o)) with
      | .loc l true => 2 ^ (2 * l + 1)
      | .glob true => 1
      | _ => 0
    | _ => 0

/-- The operations that must stand ahead of one, bit by bit. -/
def ancBits (anc : List Nat) : List Edge → Nat
  | [] => 0
  | e :: r => (if Region.binds .any e then 2 ^ e.on ||| anc.getD e.on 0 else 0) ||| ancBits anc r

def edgesDown (i : Nat) : List Edge → Bool
  | [] => true
  | e :: r => (!Region.binds .any e || e.on < i) && edgesDown i r

/-- Does an operation get along with the earlier ones that need not stand ahead of it? -/
def apartFrom (anc R W : Nat) : Nat → List (Nat × Nat) → Bool
  | _, [] => true
  | j, (r, w) :: l => (anc.testBit j || ((w &&& (R ||| W)) ||| (r &&& W)) == 0) && apartFrom anc R W (j + 1) l

/-- A region whose order is drawn: in the text's order, if no other one can be told from it. -/
def adraw (f : FuncId) (ops : Array Oper) : List Oper → (i : Nat) → (ancs : List Nat) → (foot : List (Nat × Nat)) → St → Option St
  | [], _, _, _, s => some s
  | o :: r, i, ancs, foot, s =>
    let anc := ancBits ancs o.after.toList
    let R := footR cfg f ops o s
    let W := footW cfg f ops o s
    if edgesDown i o.after.toList = true ∧ apartFrom anc R W 0 foot = true then
      match astep P cfg call f ops o s with
      | some (.next s') => adraw f ops r (i + 1) (ancs ++ [anc]) (foot ++ [(R, W)]) s'
      | _ => none
    else none

def maskTmps (m : Nat) : Nat → List AV → List AV
  | _, [] => []
  | i, v :: r => (if m.testBit i then v else .any) :: maskTmps m (i + 1) r

def maskLh (m : Nat) : Nat → List (Option LCell) → List (Option LCell)
  | _, [] => []
  | i, c :: r => (if m.testBit i then c else none) :: maskLh m (i + 1) r

/-- No pointer into a variable that is let go. -/
def lpIn (m : Nat) : AV → Bool
  | .lp t _ _ => m.testBit t
  | _ => true

mutual
/-- No pointer to a block from n on. -/
def AV.low (n : Nat) : AV → Bool
  | .any => true
  | .val _ => true
  | .slice _ rows _ => lowss n rows
  | .ref cs => lows n cs
  | .ptr id _ => Nat.blt id n
  | .lp _ _ _ => true
  | .func _ a b => lows n a && lows n b
  | .iface _ v => v.low n
  | .agg cs => lows n cs
  | .tuple vs => lows n vs
def lows (n : Nat) : List AV → Bool
  | [] => true
  | a :: l => a.low n && lows n l
def lowss (n : Nat) : List (List AV) → Bool
  | [] => true
  | a :: l => lows n a && lowss n l
end

def Out.low (n : Nat) : Out → Bool
  | .ret v => v.low n
  | .panic v => v.low n

def lowL (n : Nat) : List (Option LCell) → Bool
  | [] => true
  | none :: l => lowL n l
  | some (_, cs) :: l => lows n cs && lowL n l

def lowD (n : Nat) : List ADef → Bool
  | [] => true
  | d :: l => lows n d.args && lowD n l

def lowRM (n : Nat) : RM → Bool
  | .panicking v _ => v.low n
  | _ => true

def lowSt (n : Nat) (s : St) : Bool := lows n s.tmps && (lowL n s.lh && (lowD n s.g.defers && (lowRM n s.g.rm && lowss n (s.g.H.take n))))

/-- The blocks that a frame made are let go, where nothing that is left points to them. -/
def cutSt (s : St) : St :=
  match Nat.ble s.g.H.length s.g.base with
  | true => s
  | false => match lowSt s.g.base s with
    | true => { s with g := { s.g with H := s.g.H.take s.g.base } }
    | false => s

/-- Loops at whose head blocks are let go bear this bit. -/
def cutBit : Nat := 1000

/-- At a loop's head: what is not alive is forgotten. -/
def maskSt (live : Option Nat) (s : St) : Option St :=
  match live with
  | none => some s
  | some m => if (maskTmps m 0 s.tmps).all (lpIn m) = true then match m.testBit cutBit with
      | true => some (cutSt { s with tmps := maskTmps m 0 s.tmps, lh := maskLh m 0 s.lh })
      | false => some { s with tmps := maskTmps m 0 s.tmps, lh := maskLh m 0 s.lh }
    else none

def liveAt (l : List (Nat × Nat)) (b : Nat) : Option Nat :=
  match l with
  | [] => none
  | (k, m) :: r => if k = b then some m else liveAt r b

/-- A loop's rounds. -/
def aloop (live : Option Nat) (body : St → Option (AX × St)) : Nat → St → Option (AX × St)
  | 0, _ => none
  | n + 1, s => match maskSt live s with
    | none => none
    | some s => match body s with
      | some (.normal, s') => aloop live body n s'
      | r => r

/-- Where code goes on: the number of its first region. -/
def codeKey : Code → Nat
  | .region id _ _ => 1000000 + id
  | .seq a _ => codeKey a
  | _ => 999999

def acode (k : Nat) (f : FuncId) : (b : Nat) → Code → St → Option (AX × St)
  | _, .skip, s => some (.normal, s)
  | _, .region _ ops false, s => aops P cfg call f ops (List.range ops.size) s
  | _, .region _ ops true, s => match adraw P cfg call f ops ops.toList 0 [] [] s with
    | some s' => some (.normal, s')
    | none => none
  | b, .seq x y, s => match acode k f b x s with
    | some (.normal, s') => match maskSt (liveAt (cfg f).live (codeKey y)) s' with
      | some s2 => acode k f b y s2
      | none => none
    | r => r
  | b, .cond c x y, s => match aeval s.tmps c with
    | .val (.bool true) => acode k f b x s
    | .val (.bool false) => acode k f b y s
    | _ => none
  | _, .block id x, s => match acode k f id x s with
    | some (.exit id', s') => if id' = id then some (.normal, s') else some (.exit id', s')
    | r => r
  | b, .loop x, s => aloop (liveAt (cfg f).live b) (acode k f b x) k s
  | _, .exit id, s => some (.exit id, s)
  | _, .ret, s => some (.ret, s)
  | b, .scope x, s => acode k f b x s
  | _, .label _, s => some (.normal, s)
  | _, _, _ => none

/-- A panic that was recovered is over. -/
def settleA : RM → RM
  | .panicking _ true => .returning
  | m => m

/-- The deferred calls, one behind the other; the frame's mode. -/
def adefers : List ADef → RM → Heap → Option (RM × Heap)
  | [], m, H => some (m, H)
  | d :: r, m, H => match call d.f d.args m H with
    | some ⟨.ret _, m', H'⟩ => adefers r (settleA m') H'
    | some ⟨.panic v, _, H'⟩ => adefers r (.panicking v false) H'
    | none => none

def aresult (s : St) (H : Heap) : ResultVar → Option AV
  | .tmp t => if (s.tmps.getD t .any).isLp then none else some (s.tmps.getD t .any)
  | .cell a t => match s.tmps.getD a .any with
    | .ref cs => readCells P t cs 0
    | .ptr id o => match H[id]? with
      | some cs => readCells P t cs o
      | none => none
    | .lp l g o => match s.lh[l]? with
      | some (some (g', cs)) => if g = g' then readCells P t cs o else none
      | _ => none
    | _ => none

def aresults (s : St) (H : Heap) : List ResultVar → Option (List AV)
  | [] => some []
  | r :: rs => match aresult P s H r, aresults s H rs with
    | some v, some l => some (v :: l)
    | _, _ => none

def resultOf : List AV → AV
  | [v] => v
  | l => .tuple (l.map AV.dis)

/-- The end of a frame. -/
def afinish (fn : Func) (s : St) (m : RM) : Option CRes :=
  match s.g.rm with
  | .none => match adefers call s.g.defers m s.g.H with
    | some (.returning, H) => match aresults P s H fn.results.toList with
      | some l => some ⟨.ret (resultOf l), .none, H⟩
      | none => none
    | some (.panicking v false, H) => some ⟨.panic v, .none, H⟩
    | _ => none
  | rm => if s.g.defers.isEmpty then match m with
      | .returning => match aresults P s s.g.H fn.results.toList with
        | some l => some ⟨.ret (resultOf l), rm, s.g.H⟩
        | none => none
      | .panicking v false => some ⟨.panic v, rm, s.g.H⟩
      | _ => none
    else none

def abody (k : Nat) (f : FuncId) (fn : Func) (c : Code) (args : List AV) (rm : RM) (H : Heap) : Option CRes :=
  match acode P cfg call k f 0 c ⟨args ++ List.replicate (fn.ntmps - args.length) (.val undef), List.replicate fn.ntmps none, ⟨H, [], rm, H.length⟩⟩ with
  | some (.normal, s) => afinish P call fn s .returning
  | some (.ret, s) => afinish P call fn s .returning
  | some (.panic v, s) => afinish P call fn s (.panicking v false)
  | _ => none

end

/-- A heap is cut back to what it was, where nothing that is left points beyond. -/
def cutRes (n : Nat) (r : CRes) : CRes :=
  match Nat.ble r.H.length n with
  | true => r
  | false => match r.out.low n && lowss n (r.H.take n) with
    | true => ⟨r.out, r.rm, r.H.take n⟩
    | false => r

def cutRm (rm : RM) (n : Nat) (r : CRes) : CRes :=
  match rm with
  | .none => cutRes n r
  | _ => r

/-- A slice that a function answers, told by its type's row, also where it is nil. -/
def normV (P : Program) (t : TypeId) (v : AV) : AV :=
  match v with
  | .slice sz rows own => match P.underlying t with
    | some (.slice e) => match size? P e with
      | some n => match decide (sz = n) with
        | true => .slice sz rows .no
        | false => match rows with
          | [] => .slice n [] .no
          | r :: l => .slice sz (r :: l) own
      | none => .slice sz rows own
    | _ => .slice sz rows own
  | v => v
def normL (P : Program) : List TypeId → List AV → List AV
  | t :: ts, v :: vs => normV P t v :: normL P ts vs
  | _, vs => vs
def normO (P : Program) (ts : List TypeId) (o : Out) : Out :=
  match o with
  | .panic v => .panic v
  | .ret v => match ts with
    | [t] => .ret (normV P t v)
    | ts => match v with
      | .tuple vs => .ret (.tuple (normL P ts vs))
      | v => .ret v
def normRes (P : Program) (b : Bool) (ts : List TypeId) (r : CRes) : CRes :=
  match b with
  | true => ⟨normO P ts r.out, r.rm, r.H⟩
  | false => r

/-- A contract that stands in place of a function's code. -/
abbrev Ext := FuncId → Option (List AV → Heap → Option (Out × Heap))

def acall (P : Program) (cfg : FuncId → FCfg) (ext : Ext) : Nat → FuncId → List AV → RM → Heap → Option CRes
  | 0 => fun _ _ _ _ => none
  | k + 1 => fun f args rm H =>
    match ext f with
    | some e => match rm with
      | .none => match e args H with
        | some (out, H') => some ⟨out, .none, H'⟩
        | none => none
      | _ => none
    | none => match P.funcs[f]? with
      | none => none
      | some fn => match fn.body with
        | none => none
        | some c => (abody P cfg (acall P cfg ext k) k f fn c args rm H).map fun r => normRes P (cfg f).norm fn.resultTypes.toList (cutRm rm H.length r)

end Go.Eng
end

section
/-
  THE ENGINE, part 2: how abstract values stand to the model's (RepL), which blocks are one's own (counted), what a step may turn (Eff).
-/
set_option linter.unusedVariables false
set_option linter.unusedSimpArgs false
namespace Go.Eng


/-! ### values -/

/-- Memory that nobody writes. -/
abbrev Mem := Nat → Nat → Option Value

def ReadAt (I : Mem) (b o : Nat) (ws : List Value) : Prop := ∀ (i : Nat) v, ws[i]? = some v → I b (o + i) = some v

def OneCells (vs : List Value) : Prop := ∀ v ∈ vs, v.oneCell' = true

inductive RepL (I : Mem) (μ : List Nat) : List Value → List AV → Prop
  | nil : RepL I μ [] []
  | any {vs as} (v : Value) : RepL I μ vs as → RepL I μ (v :: vs) (.any :: as)
  | val {vs as} (v : Value) : RepL I μ vs as → RepL I μ (v :: vs) (.val v :: as)
  | slice0 {vs as} (sz : Nat) (own : Own) : RepL I μ vs as → RepL I μ (.slice none 0 0 :: vs) (.slice sz [] own :: as)
  | slice {vs as} (b o cap sz : Nat) (ws : List Value) (rows : List (List AV)) (own : Own) : ReadAt I b o ws → RepL I μ ws rows.flatten → (∀ r ∈ rows, r.length = sz) →
      rows.length ≤ cap → (own = .full → cap = rows.length) → RepL I μ vs as → RepL I μ (.slice (some ⟨b, o, none⟩) rows.length cap :: vs) (.slice sz rows own :: as)
  | slice1 {vs as} (a : Addr) (cap sz : Nat) (own : Own) : own = .no ∨ (own = .full ∧ cap = 0) → RepL I μ vs as → RepL I μ (.slice (some a) 0 cap :: vs) (.slice sz [] own :: as)
  | ref {vs as} (b o : Nat) (ws : List Value) (cs : List AV) : ReadAt I b o ws → RepL I μ ws cs → RepL I μ vs as → RepL I μ (.pointer (some ⟨b, o, none⟩) :: vs) (.ref cs :: as)
  | ptr {vs as} (id off b : Nat) : μ[id]? = some b → RepL I μ vs as → RepL I μ (.pointer (some ⟨b, off, none⟩) :: vs) (.ptr id off :: as)
  | func {vs as} (fn : Fn) (f c : Array Value) (af ac : List AV) : RepL I μ f.toList af → RepL I μ c.toList ac → RepL I μ vs as → RepL I μ (.func fn f c :: vs) (.func fn af ac :: as)
  | iface {vs as} (t : TypeId) (v : Value) (a : AV) : RepL I μ [v] [a] → RepL I μ vs as → RepL I μ (.iface t v :: vs) (.iface t a :: as)
  | agg {vs as} (cs : Array Value) (acs : List AV) : OneCells cs.toList → RepL I μ cs.toList acs → RepL I μ vs as → RepL I μ (.agg cs :: vs) (.agg acs :: as)
  | tuple {vs as} (ws : Array Value) (aws : List AV) : RepL I μ ws.toList aws → RepL I μ vs as → RepL I μ (.tuple ws :: vs) (.tuple aws :: as)

abbrev Rep (I : Mem) (μ : List Nat) (v : Value) (a : AV) : Prop := RepL I μ [v] [a]

def LeM (I J : Mem) : Prop := ∀ b o v, I b o = some v → J b o = some v
def LeN (μ ν : List Nat) : Prop := ∀ (i : Nat) b, μ[i]? = some b → ν[i]? = some b
theorem LeM.refl (I : Mem) : LeM I I := fun _ _ _ h => h
theorem LeN.refl (μ : List Nat) : LeN μ μ := fun _ _ h => h
theorem LeM.trans {I J K : Mem} (h : LeM I J) (k : LeM J K) : LeM I K := fun b o v x => k b o v (h b o v x)
theorem LeN.trans {I J K : List Nat} (h : LeN I J) (k : LeN J K) : LeN I K := fun b o x => k b o (h b o x)
theorem LeN.append (μ ν : List Nat) : LeN μ (μ ++ ν) := fun i b h => by
  rw [List.getElem?_append_left (List.getElem?_eq_some_iff.1 h).1]; exact h

theorem ReadAt.mono {I J : Mem} (h : LeM I J) {b o : Nat} {ws : List Value} (r : ReadAt I b o ws) : ReadAt J b o ws := fun i v hv => h _ _ _ (r i v hv)

theorem RepL.mono {I J : Mem} {μ ν : List Nat} (hI : LeM I J) (hμ : LeN μ ν) {vs : List Value} {as : List AV} (h : RepL I μ vs as) : RepL J ν vs as := by
  induction h with
  | nil => exact .nil
  | any v _ ih => exact .any v ih
  | val v _ ih => exact .val v ih
  | slice0 sz own _ ih => exact .slice0 sz own ih
  | slice b o cap sz ws rows own hr _ hl hc hf _ ih1 ih2 => exact .slice b o cap sz ws rows own (hr.mono hI) ih1 hl hc hf ih2
  | slice1 a cap sz own ho _ ih => exact .slice1 a cap sz own ho ih
  | ref b o ws cs hr _ _ ih1 ih2 => exact .ref b o ws cs (hr.mono hI) ih1 ih2
  | ptr id off b hb _ ih => exact .ptr id off b (hμ _ _ hb) ih
  | func fn f c af ac _ _ _ ih1 ih2 ih3 => exact .func fn f c af ac ih1 ih2 ih3
  | iface t v a _ _ ih1 ih2 => exact .iface t v a ih1 ih2
  | agg cs acs ho _ _ ih1 ih2 => exact .agg cs acs ho ih1 ih2
  | tuple ws aws _ _ ih1 ih2 => exact .tuple ws aws ih1 ih2

theorem RepL.length {I : Mem} {μ : List Nat} {vs : List Value} {as : List AV} (h : RepL I μ vs as) : vs.length = as.length := by
  induction h <;> simp_all

theorem RepL.cons {I : Mem} {μ : List Nat} {v : Value} {a : AV} {vs : List Value} {as : List AV} (h : Rep I μ v a) (k : RepL I μ vs as) : RepL I μ (v :: vs) (a :: as) := by
  cases h with
  | any v _ => exact .any v k
  | val v _ => exact .val v k
  | slice0 sz own _ => exact .slice0 sz own k
  | slice b o cap sz ws rows own hr h2 hl hc hf _ => exact .slice b o cap sz ws rows own hr h2 hl hc hf k
  | slice1 a cap sz own ho _ => exact .slice1 a cap sz own ho k
  | ref b o ws cs hr h2 _ => exact .ref b o ws cs hr h2 k
  | ptr id off b hb _ => exact .ptr id off b hb k
  | func fn f c af ac h1 h2 _ => exact .func fn f c af ac h1 h2 k
  | iface t v a h1 _ => exact .iface t v a h1 k
  | agg cs acs ho h1 _ => exact .agg cs acs ho h1 k
  | tuple ws aws h1 _ => exact .tuple ws aws h1 k

theorem RepL.uncons {I : Mem} {μ : List Nat} {v : Value} {a : AV} {vs : List Value} {as : List AV} (h : RepL I μ (v :: vs) (a :: as)) : Rep I μ v a ∧ RepL I μ vs as := by
  cases h with
  | any v k => exact ⟨.any v .nil, k⟩
  | val v k => exact ⟨.val v .nil, k⟩
  | slice0 sz own k => exact ⟨.slice0 sz own .nil, k⟩
  | slice b o cap sz ws rows own hr h2 hl hc hf k => exact ⟨.slice b o cap sz ws rows own hr h2 hl hc hf .nil, k⟩
  | slice1 a cap sz own ho k => exact ⟨.slice1 a cap sz own ho .nil, k⟩
  | ref b o ws cs hr h2 k => exact ⟨.ref b o ws cs hr h2 .nil, k⟩
  | ptr id off b hb k => exact ⟨.ptr id off b hb .nil, k⟩
  | func fn f c af ac h1 h2 k => exact ⟨.func fn f c af ac h1 h2 .nil, k⟩
  | iface t v a h1 k => exact ⟨.iface t v a h1 .nil, k⟩
  | agg cs acs ho h1 k => exact ⟨.agg cs acs ho h1 .nil, k⟩
  | tuple ws aws h1 k => exact ⟨.tuple ws aws h1 .nil, k⟩

section
variable {I : Mem} {μ : List Nat}

theorem RepL.append {vs ws : List Value} {as bs : List AV} (h : RepL I μ vs as) (k : RepL I μ ws bs) : RepL I μ (vs ++ ws) (as ++ bs) := by
  induction vs generalizing as with
  | nil => cases h; exact k
  | cons v vs ih =>
    cases as with
    | nil => cases h
    | cons a as => obtain ⟨h1, h2⟩ := h.uncons; exact .cons h1 (ih h2)

theorem RepL.get {vs : List Value} {as : List AV} (h : RepL I μ vs as) {i : Nat} {v : Value} {a : AV} (hv : vs[i]? = some v) (ha : as[i]? = some a) : Rep I μ v a := by
  induction vs generalizing as i with
  | nil => simp at hv
  | cons w vs ih =>
    cases as with
    | nil => cases h
    | cons b as =>
      obtain ⟨h1, h2⟩ := h.uncons
      cases i with
      | zero => simp at hv ha; subst hv ha; exact h1
      | succ i => exact ih h2 (by simpa using hv) (by simpa using ha)

theorem RepL.get' {vs : List Value} {as : List AV} (h : RepL I μ vs as) {i : Nat} {a : AV} (ha : as[i]? = some a) : ∃ v, vs[i]? = some v ∧ Rep I μ v a := by
  have hi := (List.getElem?_eq_some_iff.1 ha).1
  rw [← h.length] at hi
  exact ⟨vs[i], List.getElem?_eq_getElem hi, h.get (List.getElem?_eq_getElem hi) ha⟩

theorem RepL.of_get {vs : List Value} {as : List AV} (hl : vs.length = as.length) (h : ∀ (i : Nat) v a, vs[i]? = some v → as[i]? = some a → Rep I μ v a) : RepL I μ vs as := by
  induction vs generalizing as with
  | nil => cases as with
    | nil => exact .nil
    | cons a as => simp at hl
  | cons v vs ih =>
    cases as with
    | nil => simp at hl
    | cons a as => exact .cons (h 0 v a rfl rfl) (ih (by simpa using hl) fun i w b hw hb => h (i + 1) w b (by simpa using hw) (by simpa using hb))

theorem RepL.take {vs : List Value} {as : List AV} (h : RepL I μ vs as) (n : Nat) : RepL I μ (vs.take n) (as.take n) := by
  refine .of_get (by simp [h.length]) fun i v a hv ha => ?_
  rw [List.getElem?_take] at hv ha
  split at hv
  · rename_i hi; rw [if_pos hi] at ha; exact h.get hv ha
  · simp at hv

theorem RepL.drop {vs : List Value} {as : List AV} (h : RepL I μ vs as) (n : Nat) : RepL I μ (vs.drop n) (as.drop n) := by
  refine .of_get (by simp [h.length]) fun i v a hv ha => ?_
  rw [List.getElem?_drop] at hv ha
  exact h.get hv ha

theorem RepL.set {vs : List Value} {as : List AV} (h : RepL I μ vs as) (i : Nat) {v : Value} {a : AV} (k : Rep I μ v a) : RepL I μ (vs.set i v) (as.set i a) := by
  refine .of_get (by simp [h.length]) fun j w b hw hb => ?_
  rw [List.getElem?_set] at hw hb
  by_cases hij : i = j
  · rw [if_pos hij] at hw hb
    split at hw
    · rename_i hl; rw [if_pos (by rw [← h.length]; exact hl)] at hb; cases hw; cases hb; exact k
    · simp at hw
  · rw [if_neg hij] at hw hb; exact h.get hw hb

theorem Rep.dis {v : Value} {a : AV} (h : Rep I μ v a) : Rep I μ v a.dis := by
  unfold AV.dis
  split
  · rename_i sz rows
    cases h with
    | slice0 sz own _ => exact .slice0 sz _ .nil
    | slice b o cap sz ws rows own hr h2 hl hc hf _ => exact .slice b o cap sz ws rows .no hr h2 hl hc (fun h => by cases h) .nil
    | slice1 a cap sz own ho _ => rcases ho with h | ⟨h, _⟩ <;> cases h
  · exact h

theorem RepL.dis {vs : List Value} {as : List AV} (h : RepL I μ vs as) : RepL I μ vs (as.map AV.dis) := by
  refine .of_get (by simp [h.length]) fun i v a hv ha => ?_
  rw [List.getElem?_map] at ha
  cases hb : as[i]? with
  | none => simp [hb] at ha
  | some b => simp [hb] at ha; subst ha; exact (h.get hv hb).dis

theorem RepL.vals (vs : List Value) : RepL I μ vs (vs.map .val) := by
  induction vs with
  | nil => exact .nil
  | cons v vs ih => exact .val v ih

theorem Rep.ofCell (v : Value) : Rep I μ v (ofCell v) := by
  unfold Eng.ofCell
  split
  · exact .slice0 0 .full .nil
  · exact .func _ _ _ _ _ (.vals _) (.vals _) .nil
  · exact .val _ .nil

theorem RepL.ofCells (vs : List Value) : RepL I μ vs (vs.map Eng.ofCell) := by
  induction vs with
  | nil => exact .nil
  | cons v vs ih => exact .cons (.ofCell v) ih

theorem Rep.ofVal (v : Value) : Rep I μ v (ofVal v) := by
  unfold Eng.ofVal
  split
  · rename_i cs
    split
    · rename_i h; exact .agg cs _ (fun v hv => List.all_eq_true.1 h v hv) (.ofCells _) .nil
    · exact .val _ .nil
  · exact .ofCell v

theorem cellsVal_rep {vs ws : List Value} {as : List AV} (h : RepL I μ vs as) (hc : cellsVal as = some ws) : vs = ws := by
  induction vs generalizing as ws with
  | nil => cases h; simp [cellsVal] at hc; exact hc.symm
  | cons v vs ih =>
    cases as with
    | nil => cases h
    | cons a as =>
      obtain ⟨h1, h2⟩ := h.uncons
      cases a <;> simp [cellsVal] at hc
      obtain ⟨l, hl, rfl⟩ := hc
      cases h1
      rw [ih h2 hl]

theorem toVal_rep {v w : Value} {a : AV} (h : Rep I μ v a) (ha : a.toVal = some w) : v = w := by
  cases h with
  | val v _ => simpa [AV.toVal] using ha
  | agg cs acs ho h1 _ =>
    simp only [AV.toVal, Option.map_eq_some_iff] at ha
    obtain ⟨l, hl, rfl⟩ := ha
    have := cellsVal_rep h1 hl
    rw [← this]
  | iface t v a h1 _ =>
    cases h1 <;> simp [AV.toVal] at ha
    exact ha
  | _ => simp [AV.toVal] at ha

theorem slice_inv {v : Value} {sz : Nat} {rows : List (List AV)} {own : Own} (h : Rep I μ v (.slice sz rows own)) : (rows = [] ∧ v = .slice none 0 0) ∨
    (∃ b o cap ws, v = .slice (some ⟨b, o, none⟩) rows.length cap ∧ ReadAt I b o ws ∧ RepL I μ ws rows.flatten ∧ (∀ r ∈ rows, r.length = sz) ∧ rows.length ≤ cap ∧ (own = .full → cap = rows.length)) ∨
    (rows = [] ∧ ∃ a cap, v = .slice (some a) 0 cap ∧ (own = .no ∨ (own = .full ∧ cap = 0))) := by
  cases h with
  | slice0 => exact .inl ⟨rfl, rfl⟩
  | slice b o cap sz ws rows own hr h2 hl hc hf _ => exact .inr (.inl ⟨b, o, cap, ws, rfl, hr, h2, hl, hc, hf⟩)
  | slice1 a cap sz own ho _ => exact .inr (.inr ⟨rfl, a, cap, rfl, ho⟩)

/-- What lies in memory of a value: its cells. -/
theorem cells_rep {v : Value} {a : AV} {cs : List AV} (h : Rep I μ v a) (ha : a.cells = some cs) : RepL I μ v.cells.toList cs ∧ OneCells v.cells.toList := by
  cases h with
  | any => simp [AV.cells] at ha
  | val v _ =>
    cases v <;> simp [AV.cells] at ha <;> subst ha <;> exact ⟨.val _ .nil, fun w hw => by simp [Value.cells] at hw; subst hw; rfl⟩
  | slice0 sz own _ => simp [AV.cells] at ha; subst ha; exact ⟨.slice0 _ _ .nil, fun w hw => by simp [Value.cells] at hw; subst hw; rfl⟩
  | slice b o cap sz ws rows own hr h2 hl hc hf _ => simp [AV.cells] at ha; subst ha; exact ⟨.slice _ _ _ _ ws _ _ hr h2 hl hc hf .nil, fun w hw => by simp [Value.cells] at hw; subst hw; rfl⟩
  | slice1 a cap sz own ho _ => simp [AV.cells] at ha; subst ha; exact ⟨.slice1 _ _ _ _ ho .nil, fun w hw => by simp [Value.cells] at hw; subst hw; rfl⟩
  | ref b o ws cs hr h2 _ => simp [AV.cells] at ha; subst ha; exact ⟨.ref _ _ ws _ hr h2 .nil, fun w hw => by simp [Value.cells] at hw; subst hw; rfl⟩
  | ptr id off b hb _ => simp [AV.cells] at ha; subst ha; exact ⟨.ptr _ _ _ hb .nil, fun w hw => by simp [Value.cells] at hw; subst hw; rfl⟩
  | func fn f c af ac h1 h2 _ => simp [AV.cells] at ha; subst ha; exact ⟨.func _ _ _ _ _ h1 h2 .nil, fun w hw => by simp [Value.cells] at hw; subst hw; rfl⟩
  | iface t v a h1 _ => simp [AV.cells] at ha; subst ha; exact ⟨.iface _ _ _ h1 .nil, fun w hw => by simp [Value.cells] at hw; subst hw; rfl⟩
  | agg cs acs ho h1 _ => simp [AV.cells] at ha; subst ha; exact ⟨h1, ho⟩
  | tuple => simp [AV.cells] at ha
end

/-! ### counting -/

def zsum {α β : Type} (f : α → β → Nat) : List α → List β → Nat
  | a :: l, b :: m => f a b + zsum f l m
  | _, _ => 0

theorem zsum_set {α β : Type} (f : α → β → Nat) {l : List α} {m : List β} (hl : l.length = m.length) {i : Nat} {a a' : α} {b b' : β} (ha : l[i]? = some a) (hb : m[i]? = some b) :
    zsum f (l.set i a') (m.set i b') + f a b = zsum f l m + f a' b' := by
  induction l generalizing m i with
  | nil => simp at ha
  | cons x l ih =>
    cases m with
    | nil => simp at hl
    | cons y m =>
      cases i with
      | zero => simp at ha hb; subst ha hb; simp [zsum]; omega
      | succ i =>
        have := ih (m := m) (by simpa using hl) (i := i) (by simpa using ha) (by simpa using hb)
        simp only [List.set_cons_succ, zsum]; omega

theorem zsum_append {α β : Type} (f : α → β → Nat) {l l' : List α} {m m' : List β} (hl : l.length = m.length) : zsum f (l ++ l') (m ++ m') = zsum f l m + zsum f l' m' := by
  induction l generalizing m with
  | nil => cases m with
    | nil => simp [zsum]
    | cons => simp at hl
  | cons x l ih =>
    cases m with
    | nil => simp at hl
    | cons y m => simp only [List.cons_append, zsum]; rw [ih (by simpa using hl)]; omega

theorem zsum_get {α β : Type} (f : α → β → Nat) {l : List α} {m : List β} {i : Nat} {a : α} {b : β} (ha : l[i]? = some a) (hb : m[i]? = some b) : f a b ≤ zsum f l m := by
  induction l generalizing m i with
  | nil => simp at ha
  | cons x l ih =>
    cases m with
    | nil => simp at hb
    | cons y m =>
      cases i with
      | zero => simp at ha hb; subst ha hb; simp [zsum]
      | succ i => have := ih (m := m) (i := i) (by simpa using ha) (by simpa using hb); simp only [zsum]; omega

theorem zsum_pos {α β : Type} (f : α → β → Nat) {l : List α} {m : List β} (h : 0 < zsum f l m) : ∃ (i : Nat) (a : α) (b : β), l[i]? = some a ∧ m[i]? = some b ∧ 0 < f a b := by
  induction l generalizing m with
  | nil => simp [zsum] at h
  | cons x l ih =>
    cases m with
    | nil => simp [zsum] at h
    | cons y m =>
      by_cases hx : 0 < f x y
      · exact ⟨0, x, y, rfl, rfl, hx⟩
      · obtain ⟨i, a, b, ha, hb, hf⟩ := ih (m := m) (by simp only [zsum] at h; omega)
        exact ⟨i + 1, a, b, by simpa using ha, by simpa using hb, hf⟩

theorem zsum_mono {α β : Type} {f g : α → β → Nat} {l : List α} {m : List β} (h : ∀ (i : Nat) a b, l[i]? = some a → m[i]? = some b → f a b ≤ g a b) : zsum f l m ≤ zsum g l m := by
  induction l generalizing m with
  | nil => simp [zsum]
  | cons x l ih =>
    cases m with
    | nil => simp [zsum]
    | cons y m =>
      have h0 := h 0 x y rfl rfl
      have := ih (m := m) fun i a b ha hb => h (i + 1) a b (by simpa using ha) (by simpa using hb)
      simp only [zsum]; omega

/-- Is a block the own one of a value (its spare places)? -/
def tc (b : Nat) : Value → AV → Nat
  | .slice (some a) _ _, .slice _ _ .yes => if a.block = b then 1 else 0
  | _, _ => 0

theorem tc_dis (b : Nat) (v : Value) (a : AV) : tc b v a.dis = 0 := by
  cases a with
  | slice sz rows own => cases own <;> cases v <;> simp [AV.dis, tc] <;> (rename_i x _ _; cases x <;> simp)
  | _ => cases v <;> simp [AV.dis, tc]

theorem tc_le (b : Nat) (v : Value) (a : AV) : tc b v a ≤ 1 := by
  unfold tc; split <;> (try split) <;> omega

/-- The blocks that values own. -/
abbrev tcs (b : Nat) (vs : List Value) (as : List AV) : Nat := zsum (tc b) vs as
abbrev tcss (b : Nat) (vs : List (List Value)) (as : List (List AV)) : Nat := zsum (tcs b) vs as

abbrev LV := Option (Nat × List Value)
def lc (b : Nat) : LV → Option LCell → Nat
  | some (b', ws), some (_, cs) => (if b' = b then 1 else 0) + tcs b ws cs
  | _, _ => 0

theorem tcs_dis (b : Nat) (vs : List Value) (as : List AV) : tcs b vs (as.map AV.dis) = 0 := by
  induction vs generalizing as with
  | nil => simp [zsum]
  | cons v vs ih => cases as with
    | nil => simp [zsum]
    | cons a as => simp only [List.map_cons, zsum, tc_dis, ih]

/-- Spare places that are one's own: they lie in a plain block, nobody reads them. -/
def SpareOk (I : Mem) (w : World) (v : Value) (a : AV) : Prop :=
  ∀ b o len cap sz rows, v = .slice (some ⟨b, o, none⟩) len cap → a = .slice sz rows .yes →
    (∃ c e, w.heap[b]? = some (.cells c e (0, 0)) ∧ o + cap * sz ≤ c.size) ∧ ∀ k, o + len * sz ≤ k → I b k = none

theorem SpareOk.dis (I : Mem) (w : World) (v : Value) (a : AV) : SpareOk I w v a.dis := by
  intro b o len cap sz rows hv ha
  unfold AV.dis at ha
  split at ha
  · cases ha
  · rename_i h; exact absurd ha (h _ _)

def AllSpare (I : Mem) (w : World) (vs : List Value) (as : List AV) : Prop := ∀ (i : Nat) v a, vs[i]? = some v → as[i]? = some a → SpareOk I w v a

/-- A step of the world: what it may turn: the blocks of A, and what it makes anew. -/
structure Eff (I : Mem) (w : World) (A : Nat → Prop) (J : Mem) (w' : World) : Prop where
  le : LeM I J
  fresh : ∀ b o v, J b o = some v → I b o = some v ∨ w.heap.size ≤ b ∨ A b
  keep : ∀ b, b < w.heap.size → ¬ A b → w'.heap[b]? = w.heap[b]?
  size : w.heap.size ≤ w'.heap.size
  os : w'.os = w.os
  tape : w'.tape = w.tape
  output : w'.output = w.output

theorem Eff.refl (I : Mem) (w : World) (A : Nat → Prop) : Eff I w A I w := ⟨.refl I, fun _ _ _ h => .inl h, fun _ _ _ => rfl, Nat.le_refl _, rfl, rfl, rfl⟩

theorem Eff.mono {I J : Mem} {w w' : World} {A B : Nat → Prop} (h : Eff I w A J w') (hAB : ∀ b, A b → B b) : Eff I w B J w' :=
  ⟨h.le, fun b o v hv => (h.fresh b o v hv).imp id (Or.imp id (hAB b)), fun b hb hn => h.keep b hb fun ha => hn (hAB b ha), h.size, h.os, h.tape, h.output⟩

theorem Eff.trans {I J K : Mem} {w w' w'' : World} {A B : Nat → Prop} (h : Eff I w A J w') (k : Eff J w' B K w'') (hB : ∀ b, B b → A b ∨ w.heap.size ≤ b) : Eff I w A K w'' :=
  ⟨h.le.trans k.le, fun b o v hv => by
      rcases k.fresh b o v hv with h1 | h1 | h1
      · exact h.fresh b o v h1
      · exact .inr (.inl (Nat.le_trans h.size h1))
      · rcases hB b h1 with h2 | h2
        · exact .inr (.inr h2)
        · exact .inr (.inl h2),
    fun b hb hn => by
      rw [k.keep b (Nat.lt_of_lt_of_le hb h.size) fun hBb => by rcases hB b hBb with h2 | h2; exact hn h2; omega]
      exact h.keep b hb hn,
    Nat.le_trans h.size k.size, k.os.trans h.os, k.tape.trans h.tape, k.output.trans h.output⟩

theorem Eff.spare {I J : Mem} {w w' : World} {A : Nat → Prop} (h : Eff I w A J w') {v : Value} {a : AV} (hs : SpareOk I w v a) (hn : ∀ b, A b → tc b v a = 0) : SpareOk J w' v a := by
  intro b o len cap sz rows hv ha
  obtain ⟨⟨c, e, hc, hl⟩, hI⟩ := hs b o len cap sz rows hv ha
  have hb : b < w.heap.size := (Array.getElem?_eq_some_iff.1 hc).1
  have hA : ¬ A b := fun hA => by have := hn b hA; subst hv ha; simp [tc] at this
  refine ⟨⟨c, e, by rw [h.keep b hb hA]; exact hc, hl⟩, fun k hk => ?_⟩
  cases hJ : J b k with
  | none => rfl
  | some v =>
    rcases h.fresh b k v hJ with h1 | h1 | h1
    · rw [hI k hk] at h1; cases h1
    · omega
    · exact absurd h1 hA

theorem Eff.none {I J : Mem} {w w' : World} {A : Nat → Prop} (h : Eff I w A J w') {b : Nat} (hb : b < w.heap.size) (hA : ¬ A b) (hI : ∀ o, I b o = Option.none) : ∀ o, J b o = Option.none := fun o => by
  cases hJ : J b o with
  | none => rfl
  | some v =>
    rcases h.fresh b o v hJ with h1 | h1 | h1
    · rw [hI o] at h1; cases h1
    · omega
    · exact absurd h1 hA

/-- Memory that nobody writes is in the world; each cell holds one value. -/
def ImmOk (I : Mem) (w : World) : Prop := ∀ b o v, I b o = some v → w.cell? ⟨b, o, none⟩ = some v ∧ v.oneCell' = true

theorem ImmOk.lt {I : Mem} {w : World} (h : ImmOk I w) {b o : Nat} {v : Value} (hv : I b o = some v) : b < w.heap.size := World.block_lt_of_cell? w _ (h b o v hv).1

theorem ReadAt.one {I : Mem} {w : World} (h : ImmOk I w) {b o : Nat} {ws : List Value} (r : ReadAt I b o ws) : OneCells ws := fun v hv => by
  obtain ⟨i, hi, rfl⟩ := List.mem_iff_getElem.1 hv
  exact (h _ _ _ (r i _ (List.getElem?_eq_getElem hi))).2
end Go.Eng
end

section
/-
  THE ENGINE, part 3: operations that leave the world as it is come to what the interpreter says.
-/
set_option linter.unusedVariables false
set_option linter.unusedSimpArgs false
namespace Go.Eng

/-- A slot's value: as Rep, or a pointer into one of the frame's own variables. -/
def TRep (I : Mem) (μ : List Nat) (lh : List (Option LCell)) (lv : List LV) (v : Value) : AV → Prop
  | .lp t g off => ∃ g' cs b ws, lh[t]? = some (some (g', cs)) ∧ lv[t]? = some (some (b, ws)) ∧ g ≤ g' ∧ ∃ b', v = .pointer (some ⟨b', off, none⟩) ∧ (g = g' → b' = b)
  | .any => Rep I μ v .any
  | .val u => Rep I μ v (.val u)
  | .slice sz rows own => Rep I μ v (.slice sz rows own)
  | .ref cs => Rep I μ v (.ref cs)
  | .ptr id off => Rep I μ v (.ptr id off)
  | .func fn f c => Rep I μ v (.func fn f c)
  | .iface t a => Rep I μ v (.iface t a)
  | .agg cs => Rep I μ v (.agg cs)
  | .tuple vs => Rep I μ v (.tuple vs)

section
variable {I : Mem} {μ : List Nat} {lh : List (Option LCell)} {lv : List LV}

theorem TRep.of {v : Value} {a : AV} (h : Rep I μ v a) : TRep I μ lh lv v a := by
  cases a <;> first | exact h | cases h

theorem TRep.rep {v : Value} {a : AV} (h : TRep I μ lh lv v a) (ha : a.isLp = false) : Rep I μ v a := by
  cases a <;> first | exact h | simp [AV.isLp] at ha

theorem TRep.mono {J : Mem} {ν : List Nat} (hI : LeM I J) (hμ : LeN μ ν) {v : Value} {a : AV} (h : TRep I μ lh lv v a) : TRep J ν lh lv v a := by
  cases a <;> first | exact h | exact RepL.mono hI hμ h

theorem TRep.dis {v : Value} {a : AV} (h : TRep I μ lh lv v a) : TRep I μ lh lv v a.dis := by
  cases a with
  | slice sz rows own => cases own <;> first | exact h | exact Rep.dis (a := .slice sz rows .yes) h
  | _ => exact h

/-- A value that owns no spare places. -/
def NoOwn (a : AV) : Prop := ∀ sz rows, a ≠ .slice sz rows .yes

theorem NoOwn.dis (a : AV) : NoOwn a.dis := by
  cases a with
  | slice sz rows own => cases own <;> (intro s r h; simp [AV.dis] at h)
  | _ => intro s r h; simp [AV.dis] at h

theorem NoOwn.tc {a : AV} (h : NoOwn a) (b : Nat) (v : Value) : tc b v a = 0 := by
  cases a with
  | slice sz rows own => cases own <;> first | exact absurd rfl (h sz rows) | (cases v <;> simp [Eng.tc] <;> (rename_i x _ _; cases x <;> simp))
  | _ => cases v <;> simp [Eng.tc]

theorem NoOwn.spare {a : AV} (h : NoOwn a) (w : World) (v : Value) : SpareOk I w v a := fun b o len cap sz rows _ ha => absurd ha (h sz rows)

theorem ofCell_noOwn (v : Value) : NoOwn (ofCell v) := by
  unfold ofCell; split <;> (intro s r h; simp at h)

theorem ofVal_noOwn (v : Value) : NoOwn (ofVal v) := by
  unfold ofVal; split
  · split <;> (intro s r h; simp at h)
  · exact ofCell_noOwn v
end

theorem semVal_run (P : Program) {α : Type} {s : Sem α} {a : α} (h : semVal P s = some a) (w : World) : s.run P w = .ok a w := by
  induction s with
  | pure x => simp [semVal] at h; subst h; rfl
  | program k ih => simp only [semVal] at h; exact ih P h
  | mark m k ih => simp only [semVal] at h; exact ih h
  | _ => simp [semVal] at h

section
variable {P : Program} {I : Mem} {μ : List Nat} {lh : List (Option LCell)} {lv : List LV} {w : World}

theorem size_run {t : TypeId} {n : Nat} (h : size? P t = some n) (w : World) : (sizeOf t).run P w = .ok n w := by
  unfold size? at h
  cases hi : P.info? t with
  | none => simp [hi] at h
  | some i => simp [hi] at h; subst h; simp [sizeOf, typeInfo, hi]

theorem isAgg_run {t : TypeId} {b : Bool} (h : isAgg? P t = some b) (w : World) : (isAgg t).run P w = .ok b w := by
  unfold isAgg? at h
  cases hd : P.underlying t with
  | none => simp [hd] at h
  | some d => simp [hd] at h; subst h; cases d <;> simp [isAgg, run_underlying hd]

theorem add_addr (b o n : Nat) : (⟨b, o, none⟩ : Addr).add n = ⟨b, o + n, none⟩ := by
  unfold Addr.add; split
  · rename_i h; subst h; rfl
  · rfl

/-- Cells that read as values in the world. -/
def CellsAt (w : World) (b o : Nat) (ws : List Value) : Prop := ∀ (i : Nat) v, ws[i]? = some v → w.cell? ⟨b, o + i, none⟩ = some v

theorem ReadAt.cells {b o : Nat} {ws : List Value} (h : ReadAt I b o ws) (hI : ImmOk I w) : CellsAt w b o ws := fun i v hv => (hI _ _ _ (h i v hv)).1

theorem CellsAt.block {b : Nat} {ws : List Value} {e : TypeId} {fz : Nat × Nat} (h : w.heap[b]? = some (.cells ws.toArray e fz)) : CellsAt w b 0 ws := fun i v hv => by
  simp [World.cell?, h, hv]

theorem CellsAt.drop {b o : Nat} {ws : List Value} (h : CellsAt w b o ws) (n : Nat) : CellsAt w b (o + n) (ws.drop n) := fun i v hv => by
  rw [List.getElem?_drop] at hv
  have := h (n + i) v hv
  rwa [← Nat.add_assoc] at this

theorem CellsAt.take {b o : Nat} {ws : List Value} (h : CellsAt w b o ws) (n : Nat) : CellsAt w b o (ws.take n) := fun i v hv => by
  rw [List.getElem?_take] at hv
  split at hv
  · exact h i v hv
  · cases hv

theorem ReadAt.drop {b o : Nat} {ws : List Value} (h : ReadAt I b o ws) (n : Nat) : ReadAt I b (o + n) (ws.drop n) := fun i v hv => by
  rw [List.getElem?_drop] at hv
  have := h (n + i) v hv
  rwa [← Nat.add_assoc] at this

theorem ReadAt.take {b o : Nat} {ws : List Value} (h : ReadAt I b o ws) (n : Nat) : ReadAt I b o (ws.take n) := fun i v hv => by
  rw [List.getElem?_take] at hv
  split at hv
  · exact h i v hv
  · cases hv

theorem OneCells.drop {ws : List Value} (h : OneCells ws) (n : Nat) : OneCells (ws.drop n) := fun v hv => h v (List.mem_of_mem_drop hv)
theorem OneCells.take {ws : List Value} (h : OneCells ws) (n : Nat) : OneCells (ws.take n) := fun v hv => h v (List.mem_of_mem_take hv)

theorem run_loadCells_at {b o : Nat} {ws : List Value} (h : CellsAt w b o ws) : (loadCells ⟨b, o, none⟩ ws.length).run P w = .ok ws.toArray w :=
  run_loadCells_list w _ ws fun j v hv => by rw [add_addr]; exact h j v hv

/-- A read of a variable. -/
theorem readCells_sound {b o : Nat} {ws : List Value} {cs : List AV} {t : TypeId} {off : Nat} {a : AV} (hc : CellsAt w b o ws) (h1 : OneCells ws) (hr : RepL I μ ws cs)
    (h : readCells P t cs off = some a) : ∃ v, (loadVar t ⟨b, o + off, none⟩).run P w = .ok v w ∧ Rep I μ v a ∧ NoOwn a := by
  unfold readCells at h
  split at h
  · rename_i hagg
    split at h
    · rename_i n hn
      split at h
      · rename_i hle
        simp only [Option.some.injEq] at h; subst h
        have hlen : ((ws.drop off).take n).length = n := by simp [hr.length]; omega
        have hrun := run_loadCells_at (P := P) ((hc.drop off).take n)
        rw [hlen] at hrun
        refine ⟨.agg ((ws.drop off).take n).toArray, ?_, .agg _ _ (by simpa using (h1.drop off).take n) (by simpa using ((hr.drop off).take n).dis) .nil, fun s r h => by cases h⟩
        simp [loadVar, isAgg_run hagg, size_run hn, hrun]
      · cases h
    · cases h
  · rename_i hagg
    cases hcs : cs[off]? with
    | none => simp [hcs] at h
    | some c =>
      simp [hcs] at h; subst h
      obtain ⟨v, hv, hrep⟩ := hr.get' hcs
      exact ⟨v, by simp [loadVar, isAgg_run hagg, hc off v hv], hrep.dis, .dis c⟩
  · cases h

theorem part_sound {cs : Array Value} {acs : List AV} {t : TypeId} {off : Nat} {a : AV} (h1 : OneCells cs.toList) (hr : RepL I μ cs.toList acs)
    (h : partA P t acs off = some a) : ∃ v, (part t cs off).run P w = .ok v w ∧ Rep I μ v a ∧ NoOwn a := by
  unfold partA readCells at h
  split at h
  · rename_i hagg
    split at h
    · rename_i n hn
      split at h
      · rename_i hle
        simp only [Option.some.injEq] at h; subst h
        refine ⟨.agg (cs.extract off (off + n)), ?_, .agg _ _ ?_ ?_ .nil, fun s r h => by cases h⟩
        · simp [part, isAgg_run hagg, size_run hn]
        · have : (cs.extract off (off + n)).toList = (cs.toList.drop off).take n := by simp [Array.toList_extract, List.extract]
          rw [this]; exact (h1.drop off).take n
        · have : (cs.extract off (off + n)).toList = (cs.toList.drop off).take n := by simp [Array.toList_extract, List.extract]
          rw [this]; exact ((hr.drop off).take n).dis
      · cases h
    · cases h
  · rename_i hagg
    cases hcs : acs[off]? with
    | none => simp [hcs] at h
    | some c =>
      simp [hcs] at h; subst h
      obtain ⟨v, hv, hrep⟩ := hr.get' hcs
      have hv' : cs[off]? = some v := by simpa using hv
      exact ⟨v, by simp [part, isAgg_run hagg, hv'], hrep.dis, .dis c⟩
  · cases h

theorem afield_sound {v : Value} {a r : AV} {t : TypeId} {i : Nat} (hv : Rep I μ v a) (h : afield P t a i = some r) : ∃ v', (Instr.field t v i).run P w = .ok v' w ∧ Rep I μ v' r ∧ NoOwn r := by
  unfold afield at h
  split at h
  · rename_i fs cs hd
    split at h
    · rename_i f hf
      cases hv with
      | agg vs acs ho h1 _ =>
        obtain ⟨v', hrun, h2, h3⟩ := part_sound (P := P) (w := w) ho h1 h
        exact ⟨v', by simp [Instr.field, run_underlying hd, hf, asAgg, hrun], h2, h3⟩
    · cases h
  · cases h

theorem aindex_sound {v vi : Value} {a ai r : AV} {t : TypeId} (hv : Rep I μ v a) (hi : Rep I μ vi ai) (h : aindex P t a ai = some r) : ∃ v', (Instr.index t v vi).run P w = .ok v' w ∧ Rep I μ v' r ∧ NoOwn r := by
  unfold aindex at h
  split at h
  · rename_i len e cs k i hd
    split at h
    · rename_i hb
      split at h
      · rename_i n hn
        cases hi
        cases hv with
        | agg vs acs ho h1 _ =>
          obtain ⟨v', hrun, h2, h3⟩ := part_sound (P := P) (w := w) ho h1 h
          exact ⟨v', by simp [Instr.index, asIntOf, run_underlying hd, hb, size_run hn, hrun], h2, h3⟩
      · cases h
    · cases h
  · rename_i s k i hd
    split at h
    · rename_i hb
      cases hi; cases hv
      cases hs : s[i.toNat]? with
      | none => simp [hs] at h
      | some x =>
        simp [hs] at h; subst h
        exact ⟨.int .u8 x.toNat, by simp [Instr.index, asIntOf, run_underlying hd, hb, hs], .val _ .nil, fun s r h => by cases h⟩
    · cases h
  · cases h

theorem fieldPlace_run {b o : Nat} {f : Field} {n : Nat} (hn : size? P f.type = some (n + 1)) : (fieldPlace ⟨b, o, none⟩ f).run P w = .ok ⟨b, o + f.offset, none⟩ w := by
  simp [fieldPlace, size_run hn, add_addr]

theorem afieldAddr_sound {v : Value} {a r : AV} {t : TypeId} {i : Nat} (hv : TRep I μ lh lv v a) (h : afieldAddr P t a i = some r) :
    ∃ v', (Instr.fieldAt t v i).run P w = .ok v' w ∧ TRep I μ lh lv v' r ∧ NoOwn r := by
  unfold afieldAddr at h
  split at h
  · rename_i fs hd
    split at h
    · rename_i f hf
      split at h
      · rename_i n hn
        have key : ∀ b o, (Instr.fieldAt t (.pointer (some ⟨b, o, none⟩)) i).run P w = .ok (.pointer (some ⟨b, o + f.offset, none⟩)) w := fun b o => by
          simp [Instr.fieldAt, run_underlying hd, hf, Instr.sureAddr, fieldPlace_run hn]
        split at h
        · rename_i cs
          split at h
          · simp only [Option.some.injEq] at h; subst h
            cases hv with
            | ref b o ws cs hr h2 _ => exact ⟨_, key b o, .of (.ref _ _ _ _ (hr.drop _) (h2.drop _) .nil), fun s r h => by cases h⟩
          · cases h
        · rename_i id o
          simp only [Option.some.injEq] at h; subst h
          cases hv with
          | ptr id off b hb _ => exact ⟨_, key b o, .of (.ptr _ _ _ hb .nil), fun s r h => by cases h⟩
        · rename_i t' g o
          simp only [Option.some.injEq] at h; subst h
          obtain ⟨g', cs, b, ws, e1, e2, e3, b', rfl, e5⟩ := hv
          exact ⟨_, key b' o, ⟨g', cs, b, ws, e1, e2, e3, b', rfl, e5⟩, fun s r h => by cases h⟩
        · cases h
      · cases h
    · cases h
  · cases h

theorem flatten_get {rows : List (List AV)} {sz : Nat} (hl : ∀ r ∈ rows, r.length = sz) {i : Nat} {r : List AV} (h : rows[i]? = some r) : (rows.flatten.drop (i * sz)).take sz = r := by
  induction rows generalizing i with
  | nil => simp at h
  | cons x rows ih =>
    have hx : x.length = sz := hl x (by simp)
    cases i with
    | zero => simp at h; subst h; simp [← hx]
    | succ i =>
      have := ih (fun r hr => hl r (by simp [hr])) (i := i) (by simpa using h)
      rw [List.flatten_cons, Nat.succ_mul, Nat.add_comm, ← List.drop_drop, List.drop_append_of_le_length (by omega), List.drop_of_length_le (l := x) (by omega), List.nil_append]
      exact this

theorem aindexAddr_sound {v vi : Value} {a ai r : AV} {t : TypeId} (hv : TRep I μ lh lv v a) (hi : TRep I μ lh lv vi ai) (h : aindexAddr P t a ai = some r) :
    ∃ v', (Instr.indexAt t v vi).run P w = .ok v' w ∧ TRep I μ lh lv v' r ∧ NoOwn r := by
  unfold aindexAddr at h
  split at h
  · rename_i e k i hd
    split at h
    · rename_i sz rows own
      split at h
      · rename_i h0
        split at h
        · rename_i row hrow
          split at h
          · rename_i hsz
            simp only [Option.some.injEq] at h; subst h
            have hlt := (List.getElem?_eq_some_iff.1 hrow).1
            cases hi
            cases hv with
            | slice0 => simp at hlt
            | slice1 => simp at hlt
            | slice b o cap sz ws rows own hr h2 hl hc hf _ =>
              refine ⟨.pointer (some ⟨b, o + i.toNat * sz, none⟩), ?_, .of (.ref b _ ((ws.drop (i.toNat * sz)).take sz) row ((hr.drop _).take _) ?_ .nil), fun s r h => by cases h⟩
              · have : i < (rows.length : Int) := by omega
                simp [Instr.indexAt, asIntOf, run_underlying hd, h0, this, size_run hsz, add_addr]
              · have := (h2.drop (i.toNat * sz)).take sz
                rwa [flatten_get hl hrow] at this
          · cases h
        · cases h
      · cases h
    · cases h
  · rename_i len e k i hd
    split at h
    · rename_i hb
      split at h
      · rename_i n hn
        have key : ∀ b o, (Instr.indexAt t (.pointer (some ⟨b, o, none⟩)) (.int k i)).run P w = .ok (.pointer (some ⟨b, o + i.toNat * n, none⟩)) w := fun b o => by
          simp [Instr.indexAt, asIntOf, run_underlying hd, hb, Instr.sureAddr, size_run hn, add_addr]
        cases hi
        split at h
        · rename_i cs
          split at h
          · simp only [Option.some.injEq] at h; subst h
            cases hv with
            | ref b o ws cs hr h2 _ => exact ⟨_, key b o, .of (.ref _ _ _ _ (hr.drop _) (h2.drop _) .nil), fun s r h => by cases h⟩
          · cases h
        · rename_i id o
          simp only [Option.some.injEq] at h; subst h
          cases hv with
          | ptr id off b hb _ => exact ⟨_, key b o, .of (.ptr _ _ _ hb .nil), fun s r h => by cases h⟩
        · rename_i t' g o
          simp only [Option.some.injEq] at h; subst h
          obtain ⟨g', cs, b, ws, e1, e2, e3, b', rfl, e5⟩ := hv
          exact ⟨_, key b' o, ⟨g', cs, b, ws, e1, e2, e3, b', rfl, e5⟩, fun s r h => by cases h⟩
        · cases h
      · cases h
    · cases h
  · cases h

def OptRep (I : Mem) (μ : List Nat) (vx : Option Value) (x : Option AV) : Prop := (x = none ∧ vx = none) ∨ ∃ a v, x = some a ∧ vx = some v ∧ Rep I μ v a

theorem bound_sound {a : AV} {v : Value} {dflt most n : Nat} (hx : Rep I μ v a) (h : bound? (some a) dflt most = some n) :
    n ≤ most ∧ ∀ (w : World) c most', most ≤ most' → (Instr.sliceBound v most' c).run P w = .ok n w := by
  unfold bound? at h
  split at h
  · rename_i e; cases e
  · rename_i k i e
    cases e
    cases hx
    split at h
    · rename_i hb; simp only [Option.some.injEq] at h; subst h
      refine ⟨by omega, fun w c most' hm => ?_⟩
      have : i ≤ (most' : Int) := by omega
      simp [Instr.sliceBound, asIntOf, hb, this]
    · cases h
  · cases h

theorem bounds_sound {lo hi : Option AV} {vl vh : Option Value} {len cap h l : Nat} (b : Bool) (hl : OptRep I μ vl lo) (hh : OptRep I μ vh hi) (h1 : bound? hi len len = some h) (h2 : bound? lo 0 h = some l) (hc : len ≤ cap) :
    l ≤ h ∧ h ≤ len ∧ ∀ w : World, (Instr.sliceBounds b len cap vl vh none).run P w = .ok (l, h, cap) w := by
  have H : h ≤ len ∧ ((vh = none ∧ h = len) ∨ ∃ v, vh = some v ∧ ∀ (w : World) c, (Instr.sliceBound v cap c).run P w = .ok h w) := by
    rcases hh with ⟨rfl, rfl⟩ | ⟨a, v, rfl, rfl, hr⟩
    · simp [bound?] at h1; exact ⟨by omega, .inl ⟨rfl, h1.symm⟩⟩
    · obtain ⟨e1, e2⟩ := bound_sound (P := P) hr h1; exact ⟨e1, .inr ⟨v, rfl, fun w c => e2 w c cap hc⟩⟩
  have L : l ≤ h ∧ ((vl = none ∧ l = 0) ∨ ∃ v, vl = some v ∧ ∀ (w : World) c, (Instr.sliceBound v h c).run P w = .ok l w) := by
    rcases hl with ⟨rfl, rfl⟩ | ⟨a, v, rfl, rfl, hr⟩
    · simp [bound?] at h2; exact ⟨by omega, .inl ⟨rfl, h2.symm⟩⟩
    · obtain ⟨e1, e2⟩ := bound_sound (P := P) hr h2; exact ⟨e1, .inr ⟨v, rfl, fun w c => e2 w c h (Nat.le_refl _)⟩⟩
  refine ⟨L.1, H.1, fun w => ?_⟩
  rcases H.2 with ⟨rfl, rfl⟩ | ⟨v1, rfl, e1⟩ <;> rcases L.2 with ⟨rfl, rfl⟩ | ⟨v2, rfl, e2⟩ <;> simp [Instr.sliceBounds, *]

theorem bounds3_sound {lo : Option AV} {m hi : AV} {vl : Option Value} {vm vh : Value} {len cap h l n : Nat} (b : Bool) (hl : OptRep I μ vl lo) (hh : Rep I μ vh hi) (hm : Rep I μ vm m) (h0 : bound? (some m) 0 len = some n)
    (h1 : bound? (some hi) 0 n = some h) (h2 : bound? lo 0 h = some l) (hc : len ≤ cap) :
    l ≤ h ∧ h ≤ n ∧ n ≤ len ∧ ∀ w : World, (Instr.sliceBounds b len cap vl (some vh) (some vm)).run P w = .ok (l, h, n) w := by
  obtain ⟨a1, a2⟩ := bound_sound (P := P) hm h0
  obtain ⟨b1, b2⟩ := bound_sound (P := P) hh h1
  have L : l ≤ h ∧ ((vl = none ∧ l = 0) ∨ ∃ v, vl = some v ∧ ∀ (w : World) c, (Instr.sliceBound v h c).run P w = .ok l w) := by
    rcases hl with ⟨rfl, rfl⟩ | ⟨a, v, rfl, rfl, hr⟩
    · simp [bound?] at h2; exact ⟨by omega, .inl ⟨rfl, h2.symm⟩⟩
    · obtain ⟨e1, e2⟩ := bound_sound (P := P) hr h2; exact ⟨e1, .inr ⟨v, rfl, fun w c => e2 w c h (Nat.le_refl _)⟩⟩
  refine ⟨L.1, b1, a1, fun w => ?_⟩
  have a2' := fun c => a2 w c cap hc
  have b2' := fun c => b2 w c n (Nat.le_refl _)
  rcases L.2 with ⟨rfl, rfl⟩ | ⟨v2, rfl, e2⟩ <;> simp [Instr.sliceBounds, *]

theorem flatten_drop {rows : List (List AV)} {sz : Nat} (hl : ∀ r ∈ rows, r.length = sz) (i : Nat) : (rows.drop i).flatten = rows.flatten.drop (i * sz) := by
  induction rows generalizing i with
  | nil => simp
  | cons x rows ih =>
    have hx : x.length = sz := hl x (by simp)
    cases i with
    | zero => simp
    | succ i =>
      rw [List.drop_succ_cons, ih (fun r hr => hl r (by simp [hr])), List.flatten_cons, Nat.succ_mul, Nat.add_comm, ← List.drop_drop, List.drop_append_of_le_length (by omega), List.drop_of_length_le (l := x) (by omega), List.nil_append]

theorem flatten_take {rows : List (List AV)} {sz : Nat} (hl : ∀ r ∈ rows, r.length = sz) (i : Nat) : (rows.take i).flatten = rows.flatten.take (i * sz) := by
  induction rows generalizing i with
  | nil => simp
  | cons x rows ih =>
    have hx : x.length = sz := hl x (by simp)
    cases i with
    | zero => simp
    | succ i =>
      rw [List.take_succ_cons, List.flatten_cons, ih (fun r hr => hl r (by simp [hr])), List.flatten_cons, Nat.succ_mul, List.take_append, List.take_of_length_le (l := x) (by omega), hx, Nat.add_sub_cancel]

theorem sub_rep {b o sz cap' l n : Nat} {ws : List Value} {rows : List (List AV)} {own : Own} (hr : ReadAt I b o ws) (h2 : RepL I μ ws rows.flatten) (hl : ∀ r ∈ rows, r.length = sz)
    (hn : l + n ≤ rows.length) (hc : n ≤ cap') (hf : own = .full → cap' = n) : Rep I μ (.slice (some ⟨b, o + l * sz, none⟩) n cap') (.slice sz ((rows.drop l).take n) own) := by
  have hl' : ∀ r ∈ rows.drop l, r.length = sz := fun r hr => hl r (List.mem_of_mem_drop hr)
  have e : ((rows.drop l).take n).length = n := by simp; omega
  have := RepL.slice (I := I) (μ := μ) (vs := []) (as := []) b (o + l * sz) cap' sz ((ws.drop (l * sz)).take (n * sz)) ((rows.drop l).take n) own ((hr.drop _).take _)
    (by rw [flatten_take hl', flatten_drop hl]; exact (h2.drop _).take _) (fun r hr => hl' r (List.mem_of_mem_take hr)) (by rw [e]; exact hc) (by rw [e]; exact hf) .nil
  rwa [e] at this

/-- The head address where nothing is left: 'xs[k:]' at the capacity keeps the old address; its rows are none. -/
theorem sub_rep_end {b o sz : Nat} {rows : List (List AV)} {own : Own} (h0 : rows = []) : Rep I μ (.slice (some ⟨b, o, none⟩) 0 0) (.slice sz rows own) := by
  subst h0
  exact RepL.slice (I := I) (μ := μ) (vs := []) (as := []) b o 0 sz [] [] own (fun i v h => by simp at h) .nil (fun r hr => by simp at hr) (Nat.le_refl _) (fun _ => rfl) .nil

theorem slice_run {t e : TypeId} {a : Option Addr} {len cap l h m n : Nat} {vl vh vm : Option Value} (hd : P.underlying t = some (.slice e)) (hn : size? P e = some n)
    (hb : (Instr.sliceBounds true len cap vl vh vm).run P w = .ok (l, h, m) w) :
    (Instr.sliceAt t (.slice a len cap) vl vh vm).run P w = .ok (.slice (if m = l then a else a.map (·.add (l * n))) (h - l) (m - l)) w := by
  simp [Instr.sliceAt, Instr.slice, run_underlying hd, hb, size_run hn]

theorem slice_rep {v : Value} {sz l h m : Nat} {rows : List (List AV)} {own own' : Own} {n : Nat} (hv : Rep I μ v (.slice sz rows own)) (hsz : rows = [] ∨ n = sz) (hlh : l ≤ h) (hh : h ≤ rows.length)
    {a : Option Addr} {len cap : Nat} (e : v = .slice a len cap) (hm : h ≤ m) (hmc : m ≤ cap) (hf : own' = .full → m = h) (hy : own' ≠ .yes) :
    Rep I μ (.slice (if m = l then a else a.map (·.add (l * n))) (h - l) (m - l)) (.slice sz ((rows.drop l).take (h - l)) own') := by
  cases hv with
  | slice0 =>
    cases e
    simp at hh
    obtain rfl : h = 0 := by omega
    obtain rfl : l = 0 := by omega
    obtain rfl : m = 0 := by omega
    simpa using RepL.slice0 (I := I) (μ := μ) (vs := []) (as := []) sz own' .nil
  | slice1 a' cap' sz own ho _ =>
    cases e
    simp at hh
    obtain rfl : h = 0 := by omega
    obtain rfl : l = 0 := by omega
    have ho' : own' = .no ∨ (own' = .full ∧ m = 0) := by
      cases own' with
      | no => exact .inl rfl
      | full => exact .inr ⟨rfl, hf rfl⟩
      | yes => exact absurd rfl hy
    have := RepL.slice1 (I := I) (μ := μ) (vs := []) (as := []) (if m = 0 then a' else a'.add 0) m sz own' ho' .nil
    by_cases hm0 : m = 0
    · subst hm0; simpa using this
    · simpa [hm0] using this
  | slice b o cap' sz ws rows own hr h2 hl' hc hf' _ =>
    cases e
    by_cases hml : m = l
    · subst hml
      obtain rfl : h = m := by omega
      simp only [if_true, Nat.sub_self]
      exact sub_rep_end (by simp)
    · simp only [hml, if_false, Option.map_some, add_addr]
      rcases hsz with rfl | rfl
      · simp at hh
        obtain rfl : h = 0 := by omega
        obtain rfl : l = 0 := by omega
        simp only [Nat.zero_mul, Nat.add_zero, Nat.sub_zero, List.drop_nil, List.take_nil]
        have := RepL.slice (I := I) (μ := μ) (vs := []) (as := []) b o m sz [] [] own' (fun i v h => by simp at h) .nil (fun r hr => by simp at hr) (Nat.zero_le _) (fun h => hf h) .nil
        simpa using this
      · exact sub_rep hr h2 hl' (by omega) (by omega) (fun hfu => by have := hf hfu; omega)

theorem aslice_sound {v : Value} {a r : AV} {t : TypeId} {lo hi mx : Option AV} {vl vh vm : Option Value} (hv : Rep I μ v a) (hl : OptRep I μ vl lo) (hh : OptRep I μ vh hi) (hm : OptRep I μ vm mx)
    (h : aslice P t a lo hi mx = some r) : ∃ v', (Instr.sliceAt t v vl vh vm).run P w = .ok v' w ∧ Rep I μ v' r ∧ NoOwn r := by
  unfold aslice at h
  split at h
  · rename_i s hd
    split at h
    · rename_i hx hb
      rcases hm with ⟨_, rfl⟩ | ⟨_, _, hm1, _⟩
      rotate_left
      · cases hm1
      split at h
      · rename_i l hlo
        simp only [Option.some.injEq] at h; subst h
        cases hv
        obtain ⟨_, _, hrun⟩ := bounds_sound (P := P) false hl hh hb hlo (Nat.le_refl _)
        exact ⟨_, by simp [Instr.sliceAt, Instr.slice, run_underlying hd, hrun w], .val _ .nil, fun s r h => by cases h⟩
      · cases h
    · cases h
  · rename_i e sz rows own hd
    obtain ⟨base, len, cap, rfl⟩ : ∃ b l c, v = .slice b l c := by cases hv <;> exact ⟨_, _, _, rfl⟩
    obtain ⟨rfl, hcap, hfull⟩ : len = rows.length ∧ rows.length ≤ cap ∧ (own = .full → cap = rows.length) := by
      cases hv with
      | slice1 a cap sz own ho _ => exact ⟨rfl, by simp, fun hf => by rcases ho with h | ⟨_, h⟩ <;> simp_all⟩
      | _ => simp_all
    split at h
    · rename_i n hn
      split at h
      · rename_i hsz
        split at h
        · rcases hm with ⟨_, rfl⟩ | ⟨_, _, hm1, _⟩
          rotate_left
          · cases hm1
          split at h
          · rename_i h' hb
            split at h
            · rename_i l hlo
              simp only [Option.some.injEq] at h; subst h
              obtain ⟨h1, h2, hrun⟩ := bounds_sound (P := P) true hl hh hb hlo hcap
              refine ⟨_, slice_run hd hn (hrun w), slice_rep hv hsz h1 h2 rfl (Nat.le_trans h2 hcap) (Nat.le_refl _) ?_ (by split <;> simp), fun s r h => by split at h <;> cases h⟩
              intro hfu
              split at hfu
              · rename_i hc
                rw [hc.1]; exact hfull hc.2
              · cases hfu
            · cases h
          · cases h
        · rcases hm with ⟨hm1, _⟩ | ⟨m', vm', hm1, rfl, hrm⟩
          · cases hm1
          cases hm1
          split at h
          · cases h
          · rcases hh with ⟨hh1, _⟩ | ⟨hi', vh', hh1, rfl, hrh⟩
            · cases hh1
            cases hh1
            split at h
            · rename_i m0 hm0
              split at h
              · rename_i h' hb
                split at h
                · rename_i l hlo
                  simp only [Option.some.injEq] at h; subst h
                  obtain ⟨h1, h2, h3, hrun⟩ := bounds3_sound (P := P) true hl hrh hrm hm0 hb hlo hcap
                  refine ⟨_, slice_run hd hn (hrun w), slice_rep hv hsz h1 (by omega) rfl h2 (by omega) ?_ (by split <;> simp), fun s r h => by split at h <;> cases h⟩
                  intro hfu
                  split at hfu
                  · rename_i hc; exact hc.symm
                  · cases hfu
                · cases h
              · cases h
            · cases h
      · cases h
    · cases h
  · cases h

theorem run_eql (t : TypeId) (x y : Operand) (a b : Value) (d : TypeDesc) (r : Bool) (hd : P.underlying t = some d) (h1 : (eqGuard .eql t x y a b).run P w = .ok () w) (h1' : (eqGuard .neq t x y a b).run P w = .ok () w)
    (h2 : (binOp .eql t a b) = (do pure (.bool (← Op.equal t a b)))) (h2' : (binOp .neq t a b) = (do pure (.bool (!(← Op.equal t a b)))))
    (h3 : (Op.equalIn (9999 + 1) t a b).run P w = .ok r w) :
    (do eqGuard .eql t x y a b; binOp .eql t a b : Sem Value).run P w = .ok (.bool r) w ∧ (do eqGuard .neq t x y a b; binOp .neq t a b : Sem Value).run P w = .ok (.bool (!r)) w := by
  have h4 : (Op.equal t a b).run P w = .ok r w := h3
  simp [h1, h1', h2, h2', h4]

theorem isPtrNil_sound {t : TypeId} {x y : Operand} {va vb : Value} {a b : AV} {r : Bool} (ha : TRep I μ lh lv va a) (hb : TRep I μ lh lv vb b) (h : isPtrNil P t a b = some r) :
    (do eqGuard .eql t x y va vb; binOp .eql t va vb : Sem Value).run P w = .ok (.bool r) w ∧ (do eqGuard .neq t x y va vb; binOp .neq t va vb : Sem Value).run P w = .ok (.bool (!r)) w := by
  unfold isPtrNil at h
  split at h
  all_goals (try (cases h; done))
  all_goals
    rename_i hd
    simp only [Option.some.injEq] at h
    subst h
  · cases ha; cases hb; exact run_eql _ _ _ _ _ _ _ hd rfl rfl rfl rfl (by rw [Op.equalIn]; simp [run_underlying hd])
  · cases ha; cases hb; exact run_eql _ _ _ _ _ _ _ hd rfl rfl rfl rfl (by rw [Op.equalIn]; simp [run_underlying hd])
  · cases ha; obtain ⟨_, _, _, _, _, _, _, _, rfl, _⟩ := hb; exact run_eql _ _ _ _ _ _ _ hd rfl rfl rfl rfl (by rw [Op.equalIn]; simp [run_underlying hd])
  · cases ha; cases hb; exact run_eql _ _ _ _ _ _ _ hd rfl rfl rfl rfl (by rw [Op.equalIn]; simp [run_underlying hd])
  · cases ha; cases hb; exact run_eql _ _ _ _ _ _ _ hd rfl rfl rfl rfl (by rw [Op.equalIn]; simp [run_underlying hd])
  · cases hb; obtain ⟨_, _, _, _, _, _, _, _, rfl, _⟩ := ha; exact run_eql _ _ _ _ _ _ _ hd rfl rfl rfl rfl (by rw [Op.equalIn]; simp [run_underlying hd])
  · cases ha; cases hb; exact run_eql _ _ _ _ _ _ _ hd rfl rfl rfl rfl (by rw [Op.equalIn]; simp [run_underlying hd])
  · cases ha; cases hb; exact run_eql _ _ _ _ _ _ _ hd rfl rfl rfl rfl (by rw [Op.equalIn]; simp [run_underlying hd])
  · cases ha; cases hb; exact run_eql _ _ _ _ _ _ _ hd rfl rfl rfl rfl (by rw [Op.equalIn]; simp [run_underlying hd])
  · cases ha; cases hb; exact run_eql _ _ _ _ _ _ _ hd rfl rfl rfl rfl (by rw [Op.equalIn]; simp [run_underlying hd])

theorem toVal_trep {v w' : Value} {a : AV} (h : TRep I μ lh lv v a) (ha : a.toVal = some w') : v = w' := by
  cases a with
  | lp => simp [AV.toVal] at ha
  | _ => exact toVal_rep h ha

theorem abin_sound {op : BinOp} {t : TypeId} {x y : Operand} {va vb : Value} {a b r : AV} (ha : TRep I μ lh lv va a) (hb : TRep I μ lh lv vb b) (h : abin P op t x y a b = some r) :
    ∃ v', (do eqGuard op t x y va vb; binOp op t va vb : Sem Value).run P w = .ok v' w ∧ Rep I μ v' r ∧ NoOwn r := by
  unfold abin at h
  split at h
  · rename_i ua ub hua hub
    obtain rfl := toVal_trep ha hua
    obtain rfl := toVal_trep hb hub
    simp only [Option.map_eq_some_iff] at h
    obtain ⟨v, hv, rfl⟩ := h
    exact ⟨v, semVal_run P hv w, .ofVal v, ofVal_noOwn v⟩
  · split at h
    · simp only [Option.map_eq_some_iff] at h
      obtain ⟨v, hv, rfl⟩ := h
      exact ⟨_, (isPtrNil_sound ha hb hv).1, .val _ .nil, fun s r h => by cases h⟩
    · simp only [Option.map_eq_some_iff] at h
      obtain ⟨v, hv, rfl⟩ := h
      exact ⟨_, (isPtrNil_sound ha hb hv).2, .val _ .nil, fun s r h => by cases h⟩
    · cases h

theorem bytesOfRows_rep {ws : List Value} {rows : List (List AV)} {l : List UInt8} (h : bytesOfRows rows = some l) (hr : RepL I μ ws rows.flatten) :
    ∃ ns : List Int, ws = ns.map (Value.int .u8) ∧ l = ns.map fun n => UInt8.ofNat n.toNat := by
  induction rows generalizing ws l with
  | nil => simp [bytesOfRows] at h; subst h; cases hr; exact ⟨[], rfl, rfl⟩
  | cons r rows ih =>
    unfold bytesOfRows at h
    split at h
    · rename_i e; cases e
    · rename_i n rest e
      cases e
      simp only [Option.map_eq_some_iff] at h
      obtain ⟨l', hl', rfl⟩ := h
      simp only [List.flatten_cons, List.singleton_append] at hr
      cases ws with
      | nil => cases hr
      | cons w ws =>
        obtain ⟨h1, h2⟩ := hr.uncons
        cases h1
        obtain ⟨ns, rfl, rfl⟩ := ih hl' h2
        exact ⟨n :: ns, rfl, rfl⟩
    · cases h

theorem pushes_eq (ns : List Int) : ∀ s : ByteArray, ns.foldl (fun r n => r.push (UInt8.ofNat n.toNat)) s = ⟨s.data ++ (ns.map fun n => UInt8.ofNat n.toNat).toArray⟩ := by
  induction ns with
  | nil => intro s; simp
  | cons n ns ih => intro s; rw [List.foldl_cons, ih]; simp [ByteArray.push]

theorem flatten_length {rows : List (List AV)} {sz : Nat} (hl : ∀ r ∈ rows, r.length = sz) : rows.flatten.length = rows.length * sz := by
  induction rows with
  | nil => simp
  | cons x rows ih => simp [ih fun r hr => hl r (by simp [hr]), hl x (by simp), Nat.succ_mul, Nat.add_comm]

theorem bytesOfRows_len {rows : List (List AV)} {l : List UInt8} (h : bytesOfRows rows = some l) : ∀ r ∈ rows, r.length = 1 := by
  induction rows generalizing l with
  | nil => simp
  | cons r rows ih =>
    unfold bytesOfRows at h
    split at h
    · rename_i e; cases e
    · rename_i n rest e
      cases e
      simp only [Option.map_eq_some_iff] at h
      obtain ⟨l', hl', rfl⟩ := h
      intro r hr
      simp at hr
      rcases hr with rfl | hr
      · rfl
      · exact ih hl' r hr
    · cases h

theorem aconvert_sound (hI : ImmOk I w) {src dst : TypeId} {v : Value} {a r : AV} (hv : Rep I μ v a) (h : aconvert P src dst a = some r) :
    ∃ v', (convert src dst v).run P w = .ok v' w ∧ Rep I μ v' r ∧ NoOwn r := by
  unfold aconvert at h
  split at h
  · cases hv
    simp only [Option.map_eq_some_iff] at h
    obtain ⟨v, hv, rfl⟩ := h
    exact ⟨v, semVal_run P hv w, .ofVal v, ofVal_noOwn v⟩
  · rename_i sz rows own
    split at h
    · rename_i e hs hd
      split at h
      · rename_i l he hl
        simp only [Option.some.injEq] at h; subst h
        refine ⟨.string ⟨l.toArray⟩, ?_, .val _ .nil, fun s r h => by cases h⟩
        cases hv with
        | slice0 =>
          simp [bytesOfRows] at hl; subst hl
          simp [convert, run_underlying hs, run_underlying hd, run_underlying he, Conv.bytesToString]
          rfl
        | slice1 a cap sz own ho _ =>
          simp [bytesOfRows] at hl; subst hl
          have := run_bytesToString (P := P) w a 0 cap [] (by simp [loadCells, loadCellsFrom])
          rw [pushes_eq] at this
          simp [convert, run_underlying hs, run_underlying hd, run_underlying he, this]
        | slice b o cap sz ws rows own hr h2 hl' hc hf _ =>
          obtain ⟨ns, rfl, rfl⟩ := bytesOfRows_rep hl h2
          have hlen : (ns.map (Value.int .u8)).length = rows.length := by rw [h2.length, flatten_length (bytesOfRows_len hl)]; omega
          have hrun := run_loadCells_at (P := P) (hr.cells hI)
          rw [hlen] at hrun
          have := run_bytesToString w ⟨b, o, none⟩ rows.length cap ns hrun
          rw [pushes_eq] at this
          simp [convert, run_underlying hs, run_underlying hd, run_underlying he, this]
      · cases h
    · cases h
  · cases h

theorem alen_sound {t ty : TypeId} {ts : Array TypeId} (ht : ts[0]? = some t) {v : Value} {a r : AV} (hv : Rep I μ v a) (h : alen P t a = some r) :
    ∃ v', (Builtin.len_ ts ty #[v]).run P w = .ok v' w ∧ Rep I μ v' r ∧ NoOwn r := by
  unfold alen at h
  split at h
  · rename_i e sz rows own hd
    simp only [Option.some.injEq] at h; subst h
    refine ⟨.int .i64 rows.length, ?_, .val _ .nil, fun s r h => by cases h⟩
    cases hv with
    | slice0 => simp [Builtin.len_, ht, run_underlying hd, goInt]
    | slice => simp [Builtin.len_, ht, run_underlying hd, goInt]
    | slice1 => simp [Builtin.len_, ht, run_underlying hd, goInt]
  · rename_i s hd
    simp only [Option.some.injEq] at h; subst h
    cases hv
    exact ⟨.int .i64 s.size, by simp [Builtin.len_, ht, run_underlying hd, goInt], .val _ .nil, fun s r h => by cases h⟩
  · cases h

theorem atypeAssert_sound {t x : TypeId} {ok : Bool} {v : Value} {a r : AV} (hv : Rep I μ v a) (h : atypeAssert P a t ok = some r) :
    ∃ v', (Instr.typeAssert v x t ok).run P w = .ok v' w ∧ Rep I μ v' r ∧ NoOwn r := by
  have hfail : ∀ (z : Value), (P.info? t).bind (·.zero) = some z → (zeroValue t).run P w = .ok z w := fun z hz => by
    cases hi : P.info? t with
    | none => simp [hi] at hz
    | some i => simp [hi] at hz; simp [zeroValue, typeInfo, hi, hz]
  unfold atypeAssert at h
  simp only at h
  split at h
  · cases h
  · cases h
  · rename_i d hnot hd
    split at h
    · rename_i t' av
      cases hv with
      | iface t' v' a h1 _ =>
        split at h
        · rename_i htt
          subst htt
          simp only [Option.some.injEq] at h; subst h
          refine ⟨if ok then .tuple #[v', .bool true] else v', ?_, ?_, ?_⟩
          · cases d <;> first | exact absurd rfl (hnot _) | simp [Instr.typeAssert, run_underlying hd]
          · cases ok
            · exact h1.dis
            · exact .tuple _ _ (.cons h1 (.val _ .nil)) .nil
          · cases ok
            · exact .dis _
            · intro s r h; cases h
        · rename_i htt
          split at h
          · rename_i hok
            subst hok
            split at h
            · rename_i z hz
              simp only [Option.some.injEq] at h; subst h
              refine ⟨.tuple #[z, .bool false], ?_, .tuple _ _ (.cons (.ofVal z) (.val _ .nil)) .nil, fun s r h => by cases h⟩
              cases d <;> first | exact absurd rfl (hnot _) | simp [Instr.typeAssert, run_underlying hd, Ne.symm htt, htt, hfail z hz]
            · cases h
          · cases h
    · cases hv
      split at h
      · rename_i hok
        subst hok
        split at h
        · rename_i z hz
          simp only [Option.some.injEq] at h; subst h
          refine ⟨.tuple #[z, .bool false], ?_, .tuple _ _ (.cons (.ofVal z) (.val _ .nil)) .nil, fun s r h => by cases h⟩
          cases d <;> first | exact absurd rfl (hnot _) | simp [Instr.typeAssert, run_underlying hd, hfail z hz]
        · cases h
      · cases h
    · cases h

theorem aextract_sound {i : Nat} {v : Value} {a r : AV} (hv : Rep I μ v a) (h : aextract a i = some r) : ∃ v', (Instr.extract v i).run P w = .ok v' w ∧ Rep I μ v' r ∧ NoOwn r := by
  unfold aextract at h
  split at h
  · rename_i vs
    cases hv with
    | tuple ws aws h1 _ =>
      cases hc : vs[i]? with
      | none => simp [hc] at h
      | some c =>
        simp [hc] at h; subst h
        obtain ⟨v, hv, hrep⟩ := h1.get' hc
        have hv' : ws[i]? = some v := by simpa using hv
        exact ⟨v, by simp [Instr.extract, hv'], hrep.dis, .dis c⟩
  · rename_i vs
    cases hv
    cases hc : vs[i]? with
    | none => simp [hc] at h
    | some c => simp [hc] at h; subst h; exact ⟨c, by simp [Instr.extract, hc], .ofVal c, ofVal_noOwn c⟩
  · cases h

theorem amakeInterface_sound {t : TypeId} {v : Value} {a r : AV} (hv : TRep I μ lh lv v a) (h : amakeInterface P t a = some r) : ∃ v', (Instr.makeInterface t v).run P w = .ok v' w ∧ Rep I μ v' r ∧ NoOwn r := by
  unfold amakeInterface at h
  split at h
  · cases h
  · cases h
  · rename_i d hnot hd
    split at h
    · cases h
    · rename_i hlp
      simp only [Option.some.injEq] at h; subst h
      refine ⟨.iface t v, ?_, .iface t v a (hv.rep (by simpa using hlp)) .nil, fun s r h => by cases h⟩
      cases d <;> first | exact absurd rfl (hnot _) | simp [Instr.makeInterface, run_underlying hd]

theorem anilCheck_sound {v : Value} {a r : AV} (hv : TRep I μ lh lv v a) (h : anilCheck a = some r) : r = a ∧ ((∃ b o, v = .pointer (some ⟨b, o, none⟩)) ∨ ∃ g f c, v = .func (.func g) f c) ∧ NoOwn r := by
  unfold anilCheck at h
  split at h
  · simp only [Option.some.injEq] at h; subst h; cases hv; exact ⟨rfl, .inl ⟨_, _, rfl⟩, fun s r h => by cases h⟩
  · simp only [Option.some.injEq] at h; subst h; cases hv; exact ⟨rfl, .inl ⟨_, _, rfl⟩, fun s r h => by cases h⟩
  · simp only [Option.some.injEq] at h; subst h; obtain ⟨_, _, _, _, _, _, _, _, rfl, _⟩ := hv; exact ⟨rfl, .inl ⟨_, _, rfl⟩, fun s r h => by cases h⟩
  · simp only [Option.some.injEq] at h; subst h; cases hv; exact ⟨rfl, .inr ⟨_, _, _, rfl⟩, fun s r h => by cases h⟩
  · cases h

/-- Operands, slot by slot. -/
def TRepL (I : Mem) (μ : List Nat) (lh : List (Option LCell)) (lv : List LV) (vs : List Value) (as : List AV) : Prop :=
  vs.length = as.length ∧ ∀ (i : Nat) v a, vs[i]? = some v → as[i]? = some a → TRep I μ lh lv v a

theorem TRepL.uncons {v : Value} {a : AV} {vs : List Value} {as : List AV} (h : TRepL I μ lh lv (v :: vs) (a :: as)) : TRep I μ lh lv v a ∧ TRepL I μ lh lv vs as :=
  ⟨h.2 0 v a rfl rfl, by simpa using h.1, fun i w b hw hb => h.2 (i + 1) w b (by simpa using hw) (by simpa using hb)⟩

theorem TRepL.nil : TRepL I μ lh lv [] [] := ⟨rfl, fun i v a h => by simp at h⟩
theorem TRepL.cons {v : Value} {a : AV} {vs : List Value} {as : List AV} (h : TRep I μ lh lv v a) (k : TRepL I μ lh lv vs as) : TRepL I μ lh lv (v :: vs) (a :: as) := by
  refine ⟨by simp [k.1], fun i w b hw hb => ?_⟩
  cases i with
  | zero => simp at hw hb; subst hw hb; exact h
  | succ i => exact k.2 i w b (by simpa using hw) (by simpa using hb)

theorem TRepL.inv {vs : List Value} {a : AV} {as : List AV} (h : TRepL I μ lh lv vs (a :: as)) : ∃ v vs', vs = v :: vs' ∧ TRep I μ lh lv v a ∧ TRepL I μ lh lv vs' as := by
  cases vs with
  | nil => have := h.1; simp at this
  | cons v vs => exact ⟨v, vs, rfl, h.uncons.1, h.uncons.2⟩

theorem TRepL.inv0 {vs : List Value} (h : TRepL I μ lh lv vs []) : vs = [] := by
  have := h.1; simpa using this

theorem TRepL.repL {vs : List Value} {as : List AV} (h : TRepL I μ lh lv vs as) (ha : as.any AV.isLp = false) : RepL I μ vs as := by
  refine .of_get h.1 fun i v a hv hb => (h.2 i v a hv hb).rep ?_
  have := List.any_eq_false.1 ha a (List.mem_of_getElem? hb)
  simpa using this

theorem allVals_rep {vs ws : List Value} {as : List AV} (h : TRepL I μ lh lv vs as) (ha : allVals as = some ws) : vs = ws := by
  induction as generalizing vs ws with
  | nil => simp [allVals] at ha; rw [h.inv0, ha]
  | cons a as ih =>
    obtain ⟨v, vs', rfl, h1, h2⟩ := h.inv
    unfold allVals at ha
    split at ha
    · rename_i u l hu hl
      simp only [Option.some.injEq] at ha; subst ha
      rw [toVal_trep h1 hu, ih h2 hl]
    · cases ha
end
end Go.Eng
end

section
/-
  THE ENGINE, part 4: operations that make memory: structs built, slices built, made and appended to, boxes that nobody writes.
-/
set_option linter.unusedVariables false
set_option linter.unusedSimpArgs false
namespace Go.Eng

section
variable {P : Program} {I : Mem} {μ : List Nat} {lh : List (Option LCell)} {lv : List LV} {w : World}

/-! ### parts laid into cells -/

theorem writes_rep {ws : List Value} {as : List AV} {off : Nat} (hw : RepL I μ ws as) (ho : OneCells ws) : ∀ {cells : Array Value} {acells : List AV} (j : Nat), RepL I μ cells.toList acells → OneCells cells.toList →
    RepL I μ ((ws.zipIdx j).foldl (fun (cs : Array Value) (c, j) => cs.setIfInBounds (off + j) c) cells).toList (writeCells acells (off + j) as) ∧
    OneCells ((ws.zipIdx j).foldl (fun (cs : Array Value) (c, j) => cs.setIfInBounds (off + j) c) cells).toList := by
  induction ws generalizing as with
  | nil => intro cells acells j h1 h2; cases hw; exact ⟨h1, h2⟩
  | cons w ws ih =>
    intro cells acells j h1 h2
    cases as with
    | nil => cases hw
    | cons a as =>
      obtain ⟨ha, hw'⟩ := hw.uncons
      simp only [List.zipIdx_cons, List.foldl_cons, writeCells]
      refine ih hw' (fun v hv => ho v (by simp [hv])) (j + 1) ?_ ?_
      · simpa using h1.set (off + j) ha
      · intro v hv
        simp only [Array.toList_setIfInBounds] at hv
        rcases List.mem_or_eq_of_mem_set hv with h | h
        · exact h2 v h
        · subst h; exact ho _ (by simp)

theorem fillA_sound {t : TypeId} {place : Nat → Option (Nat × Nat)} (hp : ∀ i p, place? P t i = some p → place i = some p) {α : Type} (ρ : α → Value) :
    ∀ (ps : List (Nat × α)) {avs : List AV} {cells : Array Value} {acells r : List AV}, RepL I μ (ps.map fun p => ρ p.2) avs → RepL I μ cells.toList acells → OneCells cells.toList →
      fillA P t acells (zipParts ps avs) = some r → ∃ cells', Instr.fill place cells (ps.map fun p => (p.1, ρ p.2)) = some cells' ∧ RepL I μ cells'.toList r ∧ OneCells cells'.toList ∧ cells'.size = cells.size := by
  intro ps
  induction ps with
  | nil => intro avs cells acells r hv hc ho h; simp [zipParts, fillA] at h; subst h; exact ⟨cells, rfl, hc, ho, rfl⟩
  | cons p ps ih =>
    intro avs cells acells r hv hc ho h
    obtain ⟨i, x⟩ := p
    cases avs with
    | nil => have := hv.length; simp at this
    | cons a avs =>
      obtain ⟨ha, hv'⟩ := hv.uncons
      simp only [zipParts, fillA] at h
      split at h
      · rename_i off n cs hpl hcs
        split at h
        · rename_i hb
          obtain ⟨hn, hle⟩ := hb
          obtain ⟨hr, hone⟩ := cells_rep ha hcs
          have hlen : (ρ x).cells.size = n := by have := hr.length; simp at this; omega
          have hcl : cells.size = acells.length := by have := hc.length; simpa using this
          have hw := writes_rep (off := off) hr.dis hone 0 hc ho
          obtain ⟨cells', h1, h2, h3, h4⟩ := ih hv' hw.1 hw.2 h
          refine ⟨cells', ?_, h2, h3, ?_⟩
          · simp only [List.map_cons, Instr.fill, hp i _ hpl]
            rw [if_neg (by simp; omega)]
            rw [← h1]
            congr 1
            rw [← Array.foldl_toList, Array.toList_zipIdx]
          · rw [h4]
            have : ∀ (l : List (Value × Nat)) (c : Array Value), (l.foldl (fun (cs : Array Value) (c, j) => cs.setIfInBounds (off + j) c) c).size = c.size := by
              intro l; induction l with
              | nil => intro c; rfl
              | cons x l ih => intro c; rw [List.foldl_cons, ih]; simp
            exact this _ _
        · cases h
      · cases h

theorem zero_run {t : TypeId} {z : Value} (h : (P.info? t).bind (·.zero) = some z) (w : World) : (zeroValue t).run P w = .ok z w := by
  cases hi : P.info? t with
  | none => simp [hi] at h
  | some i => simp [hi] at h; simp [zeroValue, typeInfo, hi, h]

theorem mapM_run {α β : Type} (f : α → Sem β) (g : α → β) (l : List α) (w : World) (h : ∀ x ∈ l, (f x).run P w = .ok (g x) w) : (l.mapM f).run P w = .ok (l.map g) w := by
  induction l with
  | nil => simp
  | cons x l ih =>
    rw [List.mapM_cons]
    simp [h x (by simp), ih fun y hy => h y (by simp [hy])]

theorem arrMapM_run {α β : Type} (f : α → Sem β) (g : α → β) (l : Array α) (w : World) (h : ∀ x ∈ l.toList, (f x).run P w = .ok (g x) w) : (l.mapM f).run P w = .ok (l.map g) w := by
  rw [Array.mapM_eq_mapM_toList]
  simp [mapM_run f g l.toList w h]
  apply Array.ext'; simp

theorem zeroCells_rep {t : TypeId} {cs : List AV} (h : zeroCells P t = some cs) : ∃ z, (P.info? t).bind (·.zero) = some z ∧ RepL I μ z.cells.toList cs ∧ OneCells z.cells.toList := by
  unfold zeroCells at h
  split at h
  · rename_i z hz
    split at h
    · rename_i ho; simp only [Option.some.injEq] at h; subst h; exact ⟨z, hz, .ofCells _, fun v hv => List.all_eq_true.1 ho v hv⟩
    · cases h
  · cases h

theorem abuild_sound {t : TypeId} (ps : Array (Nat × Operand)) {ρ : Operand → Value} {avs : List AV} {r : AV} (hv : RepL I μ (ps.toList.map fun p => ρ p.2) avs) (h : abuild P t (zipParts ps.toList avs) = some r) :
    ∃ v', (Instr.build t (ps.map fun (i, x) => (i, ρ x))).run P w = .ok v' w ∧ Rep I μ v' r ∧ NoOwn r := by
  unfold abuild at h
  split at h
  · rename_i fs hd
    split at h
    · rename_i hall
      split at h
      · rename_i z hz
        simp only [Option.map_eq_some_iff] at h
        obtain ⟨cs, hcs, rfl⟩ := h
        obtain ⟨zv, hzv, hzr, hzo⟩ := zeroCells_rep (I := I) (μ := μ) hz
        have hpl : ∀ i p, place? P t i = some p → ((fs.map fun f => (f.offset, (size? P f.type).getD 0))[i]?) = some p := by
          intro i p hp
          simp only [place?, hd] at hp
          cases hf : fs[i]? with
          | none => simp [hf] at hp
          | some f =>
            simp [hf] at hp
            obtain ⟨n, hn, rfl⟩ := hp
            simp [hf, hn]
        obtain ⟨cells', h1, h2, h3, _⟩ := fillA_sound (P := P) (t := t) (place := fun i => (fs.map fun f => (f.offset, (size? P f.type).getD 0))[i]?) hpl ρ ps.toList hv hzr hzo hcs
        refine ⟨.agg cells', ?_, .agg _ _ h3 h2 .nil, fun s r h => by cases h⟩
        have hm : (fs.mapM fun f => do pure (f.offset, ← sizeOf f.type) : Sem (Array (Nat × Nat))).run P w = .ok (fs.map fun f => (f.offset, (size? P f.type).getD 0)) w := by
          refine arrMapM_run _ _ fs w fun f hf => ?_
          have := List.all_eq_true.1 hall f hf
          obtain ⟨n, hn⟩ := Option.isSome_iff_exists.1 this
          simp [size_run hn, hn]
        have h1' : Instr.fill (fun i => (fs.map fun f => (f.offset, (size? P f.type).getD 0))[i]?) zv.cells (ps.map fun (i, x) => (i, ρ x)).toList = some cells' := by
          rw [← h1]; simp
        simp only [Instr.build, Sem.run_bind, zero_run hzv, Result.andThen_ok, run_underlying hd, hm, h1']
        rfl
      · cases h
    · cases h
  · rename_i len e hd
    split at h
    · rename_i z n hz hn
      simp only [Option.map_eq_some_iff] at h
      obtain ⟨cs, hcs, rfl⟩ := h
      obtain ⟨zv, hzv, hzr, hzo⟩ := zeroCells_rep (I := I) (μ := μ) hz
      have hpl : ∀ i p, place? P t i = some p → (fun i => some (i * n, n)) i = some p := by
        intro i p hp
        simpa [place?, hd, hn] using hp
      obtain ⟨cells', h1, h2, h3, _⟩ := fillA_sound (P := P) (t := t) hpl ρ ps.toList hv hzr hzo hcs
      refine ⟨.agg cells', ?_, .agg _ _ h3 h2 .nil, fun s r h => by cases h⟩
      have h1' : Instr.fill (fun i => some (i * n, n)) zv.cells (ps.map fun (i, x) => (i, ρ x)).toList = some cells' := by
        rw [← h1]; simp
      simp only [Instr.build, Sem.run_bind, zero_run hzv, Result.andThen_ok, run_underlying hd, size_run hn, h1']
      rfl
    · cases h
  · cases h

/-! ### a new block that nobody writes -/

def addBlock (I : Mem) (n : Nat) (ws : List Value) : Mem := fun b o => if b = n then ws[o]? else I b o

structure Pushed (w : World) (c : Array Value) (e : TypeId) (w' : World) : Prop where
  heap : w'.heap = w.heap.push (.cells c e (0, 0))
  os : w'.os = w.os
  tape : w'.tape = w.tape
  output : w'.output = w.output

theorem Pushed.old {w w' : World} {c : Array Value} {e : TypeId} (h : Pushed w c e w') {b : Nat} (hb : b < w.heap.size) : w'.heap[b]? = w.heap[b]? := by
  rw [h.heap, Array.getElem?_push, if_neg (by omega)]

theorem Pushed.new {w w' : World} {c : Array Value} {e : TypeId} (h : Pushed w c e w') : w'.heap[w.heap.size]? = some (.cells c e (0, 0)) := by
  rw [h.heap]; simp

theorem cell_of_block {w w' : World} {a : Addr} (h : w'.heap[a.block]? = w.heap[a.block]?) : w'.cell? a = w.cell? a := by simp [World.cell?, h]

theorem Pushed.imm {w w' : World} {c : Array Value} {e : TypeId} (h : Pushed w c e w') (hI : ImmOk I w) {ws : List Value} (hws : ∀ (i : Nat) v, ws[i]? = some v → c[i]? = some v) (ho : OneCells ws) (A : Nat → Prop) :
    Eff I w A (addBlock I w.heap.size ws) w' ∧ ImmOk (addBlock I w.heap.size ws) w' ∧ ReadAt (addBlock I w.heap.size ws) w.heap.size 0 ws := by
  refine ⟨⟨?_, ?_, fun b hb _ => h.old hb, by rw [h.heap]; simp, h.os, h.tape, h.output⟩, ?_, ?_⟩
  · intro b o v hv
    have := hI.lt hv
    simp only [addBlock]; rw [if_neg (by omega)]; exact hv
  · intro b o v hv
    simp only [addBlock] at hv
    split at hv
    · rename_i hb; exact .inr (.inl (by omega))
    · exact .inl hv
  · intro b o v hv
    simp only [addBlock] at hv
    split at hv
    · rename_i hb; subst hb
      exact ⟨by simp [World.cell?, h.new, hws o v hv], ho v (List.mem_of_getElem? hv)⟩
    · have hlt := hI.lt hv
      exact ⟨by rw [cell_of_block (h.old (b := b) hlt)]; exact (hI b o v hv).1, (hI b o v hv).2⟩
  · intro i v hv
    simp only [addBlock, if_true, Nat.zero_add]; exact hv

theorem Pushed.none {w w' : World} {c : Array Value} {e : TypeId} (h : Pushed w c e w') (hI : ImmOk I w) (A : Nat → Prop) : Eff I w A I w' ∧ ImmOk I w' ∧ ∀ o, I w.heap.size o = Option.none := by
  refine ⟨⟨.refl I, fun b o v hv => .inl hv, fun b hb _ => h.old hb, by rw [h.heap]; simp, h.os, h.tape, h.output⟩, ?_, ?_⟩
  · intro b o v hv
    exact ⟨by rw [cell_of_block (h.old (b := b) (hI.lt hv))]; exact (hI b o v hv).1, (hI b o v hv).2⟩
  · intro o
    cases hv : I w.heap.size o with
    | none => rfl
    | some v => have := hI.lt hv; omega

theorem pushed_alloc (w : World) (c : Array Value) (e : TypeId) : Pushed w c e { w with heap := w.heap.push (.cells c e) } := ⟨rfl, rfl, rfl, rfl⟩
theorem pushed_drew (w : World) (c : Array Value) (e : TypeId) : Pushed w c e (w.drew.alloc (.cells c e)) := ⟨rfl, rfl, rfl, rfl⟩

theorem newCells_run {o : Oper} {vs : List AV} {cs : List AV} {ρ : Operand → Value} {cvs : List Value} (h : newCells P o vs = some cs) (hv : TRepL I μ lh lv cvs vs) (hc : cvs = o.op.operands.toList.map ρ) :
    ∃ e c w', (execOp ρ o).run P w = .ok (.value (.pointer (some ⟨w.heap.size, 0, none⟩))) w' ∧ Pushed w c e w' ∧ RepL I μ c.toList cs ∧ OneCells c.toList := by
  unfold newCells at h
  split at h
  · rename_i e hop
    obtain ⟨z, hz, h1, h2⟩ := zeroCells_rep (I := I) (μ := μ) h
    refine ⟨e, z.cells, _, ?_, pushed_alloc w _ _, h1, h2⟩
    simp [execOp, hop, Instr.alloc, zero_run hz, newVar, newRow]
  · rename_i e x v hop
    simp only [Option.map_eq_some_iff] at h
    obtain ⟨cs', hcs, rfl⟩ := h
    simp [hop, Op.operands] at hc
    subst hc
    have hr : Rep I μ (ρ x) v := (hv.uncons.1).rep (by cases v <;> simp [AV.cells] at hcs <;> rfl)
    obtain ⟨h1, h2⟩ := cells_rep hr hcs
    refine ⟨e, (ρ x).cells, _, ?_, pushed_alloc w _ _, h1.dis, h2⟩
    simp [execOp, hop, Instr.box, newVar, newRow]
  · cases h

/-! ### slices that are built and made -/

theorem flatten_replicate_get {α : Type} (l : List α) (n i : Nat) (h : i < n * l.length) : (List.replicate n l).flatten[i]? = l[i % l.length]? := by
  induction n generalizing i with
  | zero => simp at h
  | succ n ih =>
    rw [List.replicate_succ, List.flatten_cons]
    by_cases hi : i < l.length
    · rw [List.getElem?_append_left hi, Nat.mod_eq_of_lt hi]
    · have hs : (n + 1) * l.length = n * l.length + l.length := Nat.succ_mul n l.length
      rw [List.getElem?_append_right (by omega), ih _ (by omega)]
      congr 1
      exact (Nat.mod_eq_sub_mod (by omega)).symm

theorem range_mod (z : Array Value) (n : Nat) : ((Array.range (n * z.size)).map (fun k => z[k % z.size]!)).toList = (List.replicate n z.toList).flatten := by
  apply List.ext_getElem?
  intro i
  by_cases hi : i < n * z.size
  · have h0 : 0 < z.size := by rcases Nat.eq_zero_or_pos z.size with h | h; simp [h] at hi; exact h
    rw [flatten_replicate_get _ _ _ (by simpa using hi)]
    have hm : i % z.size < z.size := Nat.mod_lt _ h0
    simp [hi, hm]
  · rw [List.getElem?_eq_none (by simp; omega), List.getElem?_eq_none]
    simp [List.length_flatten]; omega

theorem chunks_flatten {sz n : Nat} : ∀ {l : List AV}, l.length = n * sz → (chunks sz n l).flatten = l ∧ (∀ r ∈ chunks sz n l, r.length = sz) ∧ (chunks sz n l).length = n := by
  induction n with
  | zero => intro l h; simp at h; subst h; simp [chunks]
  | succ n ih =>
    intro l h
    rw [Nat.succ_mul] at h
    obtain ⟨h1, h2, h3⟩ := ih (l := l.drop sz) (by simp; omega)
    refine ⟨by simp [chunks, h1], ?_, by simp [chunks, h3]⟩
    intro r hr
    simp only [chunks, List.mem_cons] at hr
    rcases hr with rfl | hr
    · simp; omega
    · exact h2 r hr

theorem replicate_rep {vs : List Value} {as : List AV} (h : RepL I μ vs as) (n : Nat) : RepL I μ (List.replicate n vs).flatten (List.replicate n as).flatten := by
  induction n with
  | zero => exact .nil
  | succ n ih => simpa [List.replicate_succ] using h.append ih

theorem replicate_one {vs : List Value} (h : OneCells vs) (n : Nat) : OneCells (List.replicate n vs).flatten := by
  intro v hv
  simp only [List.mem_flatten, List.mem_replicate] at hv
  obtain ⟨l, ⟨_, rfl⟩, hv⟩ := hv
  exact h v hv

theorem abuildSlice_sound (hI : ImmOk I w) {t : TypeId} {n : Nat} (ps : Array (Nat × Operand)) {ρ : Operand → Value} {avs : List AV} {r : AV} (hv : RepL I μ (ps.toList.map fun p => ρ p.2) avs)
    (h : abuildSlice P t n (zipParts ps.toList avs) = some r) (A : Nat → Prop) :
    ∃ v' w' J, (Instr.buildSlice t n (ps.map fun (i, x) => (i, ρ x))).run P w = .ok v' w' ∧ Eff I w A J w' ∧ ImmOk J w' ∧ Rep J μ v' r ∧ NoOwn r := by
  unfold abuildSlice at h
  split at h
  · rename_i e hd
    split at h
    · rename_i i hi
      split at h
      · rename_i z hz
        split at h
        · rename_i hb
          obtain ⟨h1, h2, h3, h4⟩ := hb
          simp only [Option.map_eq_some_iff] at h
          obtain ⟨cs, hcs, rfl⟩ := h
          have hsz : size? P e = some i.size := by simp [size?, hi]
          have hzr : RepL I μ z.cells.toList (z.cells.toList.map ofCell) := .ofCells _
          have hzo : OneCells z.cells.toList := fun v hv => List.all_eq_true.1 h4 v hv
          have hcell0 := range_mod z.cells n
          have hpl : ∀ j p, place? P t j = some p → (fun j => some (j * i.size, i.size)) j = some p := by
            intro j p hp
            simpa [place?, hd, hsz] using hp
          obtain ⟨cells', f1, f2, f3, f4⟩ := fillA_sound (P := P) (t := t) (I := I) (μ := μ) (cells := (Array.range (n * z.cells.size)).map (fun k => z.cells[k % z.cells.size]!)) hpl ρ ps.toList hv
            (by rw [hcell0]; exact replicate_rep hzr n) (by rw [hcell0]; exact replicate_one hzo n) hcs
          have hlen : cells'.size = n * i.size := by rw [f4, h1]; simp
          have hne : n * i.size ≠ 0 ∨ n = 0 := by
            rcases Nat.eq_zero_or_pos n with h | h
            · exact .inr h
            · exact .inl (Nat.ne_of_gt (Nat.mul_pos h h2))
          have hrun : (Instr.buildSlice t n (ps.map fun (i, x) => (i, ρ x))).run P w = .ok (.slice (some ⟨w.heap.size, 0, none⟩) n n) { w with heap := w.heap.push (.cells cells' e) } := by
            have h3' : ¬ (2 ^ 24 < n * i.size) := by omega
            have f1' : Instr.fill (fun j => some (j * i.size, i.size)) ((Array.range (n * i.size)).map (fun k => z.cells[k % z.cells.size]!)) (ps.map fun (i, x) => (i, ρ x)).toList = some cells' := by
              rw [← f1, h1]; simp
            simp only [Instr.buildSlice, Sem.run_bind, run_underlying hd, Result.andThen_ok, size_run hsz]
            rw [Sem.run_ite, if_neg h3']
            rcases hne with hne | rfl
            · simp only [hne, if_false]
              rw [Sem.run_bind, zero_run (P := P) (t := e) (z := z) (by simp [hi, hz]), Result.andThen_ok, Sem.run_bind, Sem.run_pure, Result.andThen_ok, f1']
              rfl
            · have f0 : Instr.fill (fun j => some (j * i.size, i.size)) ((Array.range (0 * i.size)).map (fun k => (#[] : Array Value)[k % (#[] : Array Value).size]!)) (ps.map fun (i, x) => (i, ρ x)).toList = some cells' := by
                rw [← f1']; congr 1; apply Array.ext'; simp
              simp only [Nat.zero_mul, if_true]
              rw [Sem.run_bind, Sem.run_pure, Result.andThen_ok]
              simp only [Nat.zero_mul] at f0
              rw [f0]
              rfl
          obtain ⟨g1, g2, g3⟩ := (pushed_alloc w cells' e).imm hI (ws := cells'.toList) (fun j v hv => by simpa using hv) f3 A
          obtain ⟨k1, k2, k3⟩ := chunks_flatten (sz := i.size) (n := n) (l := cs) (by rw [← f2.length]; simpa using hlen)
          refine ⟨_, _, _, hrun, g1, g2, ?_, fun s r h => by cases h⟩
          have := RepL.slice (I := addBlock I w.heap.size cells'.toList) (μ := μ) (vs := []) (as := []) w.heap.size 0 n i.size cells'.toList (chunks i.size n cs) .full g3 (by rw [k1]; exact f2.mono g1.le (.refl μ)) k2 (by rw [k3]; exact Nat.le_refl _) (fun _ => k3.symm) .nil
          rwa [k3] at this
        · cases h
      · cases h
    · cases h
  · cases h

/-! ### append -/

theorem lenOf_rep {v : Value} {a : AV} {sz : Nat} {new : List (List AV)} (hv : Rep I μ v a) (h : newRows a = some (sz, new)) (w : World) : (Builtin.lenOf v).run P w = .ok new.length w := by
  unfold newRows at h
  split at h
  · simp only [Option.some.injEq, Prod.mk.injEq] at h
    obtain ⟨rfl, rfl⟩ := h
    cases hv <;> simp [Builtin.lenOf]
  · simp only [Option.some.injEq, Prod.mk.injEq] at h
    obtain ⟨rfl, rfl⟩ := h
    cases hv; simp [Builtin.lenOf]
  · cases h

theorem bytes_rep (l : List UInt8) : RepL I μ (l.map fun b => Value.int .u8 b.toNat) ((l.map fun b => [AV.val (.int .u8 b.toNat)]).flatten) := by
  induction l with
  | nil => exact .nil
  | cons b l ih => exact .val _ ih

/-- What an append takes over: the new rows' values. -/
theorem new_rep {v : Value} {a : AV} {sz : Nat} {new : List (List AV)} (hI : ImmOk I w) (hv : Rep I μ v a) (h : newRows a = some (sz, new)) :
    ∃ ws, RepL I μ ws new.flatten ∧ OneCells ws ∧ ws.length = new.length * sz ∧ (∀ r ∈ new, r.length = sz) ∧
      ∀ w' : World, (∀ b, b < w.heap.size → w'.heap[b]? = w.heap[b]?) → (Builtin.firstCells sz new.length v).run P w' = .ok ws.toArray w' := by
  unfold newRows at h
  split at h
  · simp only [Option.some.injEq, Prod.mk.injEq] at h
    obtain ⟨rfl, rfl⟩ := h
    cases hv with
    | slice0 => exact ⟨[], .nil, fun v hv => by simp at hv, by simp, by simp, fun w' _ => by simp [Builtin.firstCells]⟩
    | slice1 a cap sz own ho _ => exact ⟨[], .nil, fun v hv => by simp at hv, by simp, by simp, fun w' _ => run_firstCells_some (P := P) w' _ 0 a _ _ [] (by simp) (fun j v h => by simp at h)⟩
    | slice b o cap _ ws _ own hr h2 hl hc hf _ =>
      have hlen := h2.length
      rw [flatten_length hl] at hlen
      refine ⟨ws, h2, hr.one hI, hlen, hl, fun w' hk => ?_⟩
      refine run_firstCells_some w' _ _ ⟨b, o, none⟩ _ _ ws hlen fun j v hv => ?_
      rw [add_addr]
      have := hr j v hv
      rw [cell_of_block (hk b (hI.lt this))]
      exact (hI _ _ _ this).1
  · simp only [Option.some.injEq, Prod.mk.injEq] at h
    obtain ⟨rfl, rfl⟩ := h
    rename_i s
    cases hv
    refine ⟨_, bytes_rep s.data.toList, ?_, by simp, by simp, fun w' _ => ?_⟩
    · intro v hv; simp at hv; obtain ⟨b, _, rfl⟩ := hv; rfl
    · simp [Builtin.firstCells]
      apply Array.ext'; simp
  · cases h

theorem dis_flatten (rows : List (List AV)) : (rows.map (·.map AV.dis)).flatten = rows.flatten.map AV.dis := by
  induction rows with
  | nil => rfl
  | cons r rows ih => simp only [List.map_cons, List.flatten_cons, ih, List.map_append]

/-- The memory of an append in place. -/
def addCells (I : Mem) (b o : Nat) (ws : List Value) : Mem := fun b' o' => if b' = b ∧ o ≤ o' ∧ o' < o + ws.length then ws[o' - o]? else I b' o'

theorem setRow_block (w : World) (g : Nat) (c : Array Value) {b : Nat} (h : b ≠ g) : (w.setRow g c).heap[b]? = w.heap[b]? := by
  simp only [World.setRow, Array.getElem?_modify]
  rw [if_neg (by omega)]

theorem append_grow_run {t u ty e : TypeId} {ts : Array TypeId} (h0 : ts[0]? = some t) (h1 : ts[1]? = some u) {xd : TypeDesc} (ht : P.underlying t = some (.slice e)) (hu : P.underlying u = some xd) (hxd : ∀ k, xd ≠ .int k)
    {i : TypeInfo} (hi : P.info? e = some i) {z : Value} (hz : i.zero = some z) {base : Option Addr} {sLen sCap n : Nat} {x : Value} {olds news : Array Value}
    (hlen : (Builtin.lenOf x).run P w = .ok n w) (holds : (Builtin.firstCells i.size sLen (.slice base sLen sCap)).run P w.drew = .ok olds w.drew)
    (hnews : (Builtin.firstCells i.size n x).run P w.drew = .ok news w.drew)
    (hg : sCap < sLen + n) (h63 : ((sLen + n : Nat) : Int) ≤ 9223372036854775807) (hfit : Builtin.nextslicecap (sLen + n) sCap * i.bytes ≤ 281474976710656) :
    (Builtin.append_ ts ty #[.slice base sLen sCap, x]).run P w =
      .ok (.slice (some ⟨w.heap.size, 0, none⟩) (sLen + n) (grownCap w (sLen + n) sCap e))
        (w.drew.alloc (.cells (olds ++ news ++ Builtin.zeroCells z.cells (grownCap w (sLen + n) sCap e - (sLen + n))) e)) := by
  have hn : ¬ (sLen + n ≤ sCap) := by omega
  have h63' : ¬ (9223372036854775807 < ((sLen : Int) + (n : Int))) := by omega
  have h48' : ¬ (281474976710656 < Builtin.nextslicecap (sLen + n) sCap * i.bytes) := by omega
  have hm : (xd matches .int _) = false := by cases xd <;> first | rfl | exact absurd rfl (hxd _)
  simp [Builtin.append_, h0, h1, run_underlying ht, run_underlying hu, hm, sizeOf, typeInfo, zeroValue, hi, hz, hlen, hn, h63', h48', Question.forced, holds, hnews, newRow, grownCap]

theorem append_room_run {t u ty e : TypeId} {ts : Array TypeId} (h0 : ts[0]? = some t) (h1 : ts[1]? = some u) {xd : TypeDesc} (ht : P.underlying t = some (.slice e)) (hu : P.underlying u = some xd) (hxd : ∀ k, xd ≠ .int k)
    {i : TypeInfo} (hi : P.info? e = some i) {base : Option Addr} {sLen sCap n : Nat} {x : Value} {news : List Value}
    (hlen : (Builtin.lenOf x).run P w = .ok n w) (hnews : (Builtin.firstCells i.size n x).run P w = .ok news.toArray w) (hroom : sLen + n ≤ sCap) {w' : World}
    (hst : ∀ a, base = some a → (storeCells (a.add (sLen * i.size)) news).run P w = .ok () w') (hno : base = none → w' = w) :
    (Builtin.append_ ts ty #[.slice base sLen sCap, x]).run P w = .ok (.slice base (sLen + n) sCap) w' := by
  have hm : (xd matches .int _) = false := by cases xd <;> first | rfl | exact absurd rfl (hxd _)
  cases base with
  | none => rw [hno rfl]; simp [Builtin.append_, h0, h1, run_underlying ht, run_underlying hu, hm, sizeOf, typeInfo, hi, hlen, hroom, hnews]
  | some a => simp [Builtin.append_, h0, h1, run_underlying ht, run_underlying hu, hm, sizeOf, typeInfo, hi, hlen, hroom, hnews, hst a rfl]

theorem first_rep {v : Value} {sz n : Nat} {rows : List (List AV)} {own : Own} (hI : ImmOk I w) (hv : Rep I μ v (.slice sz rows own)) (hsz : sz = n ∨ rows = []) {base : Option Addr} {len cap : Nat} (e : v = .slice base len cap) :
    ∃ ws, RepL I μ ws rows.flatten ∧ OneCells ws ∧ ws.length = rows.length * n ∧ ∀ w' : World, (∀ b, b < w.heap.size → w'.heap[b]? = w.heap[b]?) → (Builtin.firstCells n rows.length (.slice base len cap)).run P w' = .ok ws.toArray w' := by
  rcases hsz with rfl | rfl
  · subst e
    obtain ⟨ws, h1, h2, h3, _, h5⟩ := new_rep (P := P) (a := .slice sz rows own) hI hv rfl
    exact ⟨ws, h1, h2, h3, h5⟩
  · refine ⟨[], .nil, fun v hv => by simp at hv, by simp, fun w' _ => ?_⟩
    cases base with
    | none => simp [Builtin.firstCells]
    | some a => simpa using run_firstCells_some (P := P) w' n 0 a len cap [] (by simp) (fun j v h => by simp at h)

theorem aappend_sound (hI : ImmOk I w) {ts : Array TypeId} {ty : TypeId} {va vb : Value} {a b r : AV} (ha : Rep I μ va a) (hb : Rep I μ vb b) (hs : SpareOk I w va a) (h : aappend P ts a b = some r) :
    ∃ v' w' J, (Builtin.append_ ts ty #[va, vb]).run P w = .ok v' w' ∧ Eff I w (fun g => tc g va a ≠ 0) J w' ∧ ImmOk J w' ∧ Rep J μ v' r ∧ SpareOk J w' v' r ∧ ∀ g, g < w.heap.size → tc g v' r ≤ tc g va a := by
  unfold aappend at h
  split at h
  · rename_i t u h0 h1
    split at h
    · rename_i e xd ht hu
      split at h
      · cases h
      · rename_i hxd
        split at h
        · rename_i sz rows own sz' new i hnew hi
          obtain ⟨base, cap, rfl, hcap, hfull⟩ : ∃ base cap, va = .slice base rows.length cap ∧ rows.length ≤ cap ∧ (own = .full → cap = rows.length) := by
            rcases slice_inv ha with ⟨rfl, rfl⟩ | ⟨b, o, cap, ws, rfl, _, _, _, h5, h6⟩ | ⟨rfl, a, cap, rfl, ho⟩
            · exact ⟨_, _, rfl, by simp, by simp⟩
            · exact ⟨_, _, rfl, h5, h6⟩
            · exact ⟨_, _, rfl, by simp, fun hf => by
                rcases ho with h | ⟨_, h⟩
                · rw [hf] at h; cases h
                · exact h⟩
          obtain ⟨ws, n1, n2, n3, n4, n5⟩ := new_rep (P := P) hI hb hnew
          have hlen := lenOf_rep (P := P) hb hnew w
          split at h
          · rename_i hnil
            subst hnil
            simp only [Option.some.injEq] at h; subst h
            simp at n3; subst n3
            have hst : ∀ a, base = some a → (storeCells (a.add (rows.length * i.size)) []).run P w = .ok () w := fun a _ => by simp [storeCells]
            have hf0 : (Builtin.firstCells i.size ([] : List (List AV)).length vb).run P w = .ok ([] : List Value).toArray w := by
              unfold newRows at hnew
              split at hnew
              · simp only [Option.some.injEq, Prod.mk.injEq] at hnew
                obtain ⟨rfl, rfl⟩ := hnew
                cases hb with
                | slice0 => simp [Builtin.firstCells]
                | slice1 a cap _ own ho _ => exact run_firstCells_some (P := P) w i.size 0 a _ _ [] (by simp) (fun j v h => by simp at h)
                | slice b o cap _ ws _ own hr h2 hl hc hf _ => exact run_firstCells_some (P := P) w i.size 0 ⟨b, o, none⟩ _ _ [] (by simp) (fun j v h => by simp at h)
              · simp only [Option.some.injEq, Prod.mk.injEq] at hnew
                obtain ⟨rfl, hs⟩ := hnew
                cases hb; simp [Builtin.firstCells]
              · cases hnew
            exact ⟨_, w, I, append_room_run h0 h1 ht hu hxd hi hlen hf0 (by simpa using hcap) hst (fun _ => rfl), .refl _ _ _, hI, by simpa using ha, by simpa using hs, fun g _ => by simp⟩
          · rename_i hne
            split at h
            · rename_i hc
              obtain ⟨c1, rfl, c3, c4, c5, c6⟩ := hc
              simp only [Option.some.injEq] at h; subst h
              obtain ⟨z, hz, hzs⟩ := Option.map_eq_some_iff.1 c6
              have hpos : 0 < new.length := by cases new with | nil => exact absurd rfl hne | cons => simp
              have hdis : RepL I μ ws (new.map (·.map AV.dis)).flatten := by rw [dis_flatten]; exact n1.dis
              have hrl : (rows ++ new.map (·.map AV.dis)).length = rows.length + new.length := by simp
              obtain ⟨os, o1, o2, o3, o5⟩ := first_rep (P := P) (n := i.size) hI ha (c1.imp id And.left) rfl
              have hrows : ∀ r ∈ rows ++ new.map (·.map AV.dis), r.length = i.size := by
                intro r hr
                rcases List.mem_append.1 hr with hr | hr
                · rcases c1 with rfl | ⟨rfl, _⟩
                  · rcases slice_inv ha with ⟨rfl, _⟩ | ⟨b, o, cap, ws, _, _, _, h4, _, _⟩ | ⟨rfl, _⟩
                    · simp at hr
                    · exact h4 r hr
                    · simp at hr
                  · simp at hr
                · simp at hr
                  obtain ⟨x, hx, rfl⟩ := hr
                  simpa using n4 x hx
              by_cases hroom : rows.length + new.length ≤ cap
              · -- in place
                have hown : own = .yes := by
                  cases own with
                  | no => exact absurd rfl c3
                  | full => have := hfull rfl; omega
                  | yes => rfl
                subst hown
                obtain rfl : sz = i.size := by rcases c1 with h | ⟨_, h⟩; exact h; cases h
                rcases slice_inv ha with ⟨rfl, e0⟩ | ⟨b, o, cap0, ws', e0, hr, h2, hl, hc, hf⟩ | ⟨_, _, _, _, ho⟩
                rotate_left 2
                · rcases ho with h | ⟨h, _⟩ <;> cases h
                · cases e0; simp only [List.length_nil] at hroom; omega
                · cases e0
                  obtain ⟨⟨c, e', hc1, hc2⟩, hI2⟩ := hs b o _ _ _ _ rfl rfl
                  have hmul : (rows.length + new.length) * i.size ≤ cap * i.size := Nat.mul_le_mul_right _ hroom
                  rw [Nat.add_mul] at hmul
                  have hws' : ws'.length = rows.length * i.size := by rw [h2.length, flatten_length hl]
                  have hst := run_storeCells_at P b (o + rows.length * i.size) e' ws 0 c w hc1 (by omega) n2
                  simp only [Nat.add_zero] at hst
                  refine ⟨_, _, addCells I b (o + rows.length * i.size) ws, append_room_run h0 h1 ht hu hxd hi hlen (n5 w fun _ _ => rfl) hroom (fun a ha => by cases ha; rw [add_addr]; exact hst) (fun h => by cases h), ?_, ?_, ?_, ?_, ?_⟩
                  · refine ⟨?_, ?_, ?_, ?_, rfl, rfl, rfl⟩
                    · intro b' o' v hv
                      simp only [addCells]
                      split
                      · rename_i hb'
                        obtain ⟨rfl, hb1, _⟩ := hb'
                        rw [hI2 o' hb1] at hv; cases hv
                      · exact hv
                    · intro b' o' v hv
                      simp only [addCells] at hv
                      split at hv
                      · rename_i hb'; exact .inr (.inr (by simp [tc, hb'.1]))
                      · exact .inl hv
                    · intro b' hb' hn
                      exact setRow_block w b _ (fun hbb => hn (by simp [tc, hbb]))
                    · simp [World.setRow]
                  · intro b' o' v hv
                    simp only [addCells] at hv
                    have hrow := setRow_heap w b c (c.toList.take (o + rows.length * i.size) ++ ws ++ c.toList.drop (o + rows.length * i.size + ws.length)).toArray e' (0, 0) hc1
                    split at hv
                    · rename_i hb'
                      obtain ⟨rfl, hb1, hb2⟩ := hb'
                      refine ⟨?_, n2 v (List.mem_of_getElem? hv)⟩
                      simp only [World.cell?, hrow]
                      simp only [Option.isSome_none, Bool.false_eq_true, if_false, List.getElem?_toArray]
                      rw [List.append_assoc, List.getElem?_append_right (by simp; omega), List.getElem?_append_left (by simp; omega)]
                      rw [← hv]; congr 1; simp; omega
                    · rename_i hb'
                      obtain ⟨hv1, hv2⟩ := hI b' o' v hv
                      refine ⟨?_, hv2⟩
                      by_cases hbb : b' = b
                      · subst hbb
                        have ho' : o' < o + rows.length * i.size := by
                          rcases Nat.lt_or_ge o' (o + rows.length * i.size) with h | h
                          · exact h
                          · rw [hI2 o' h] at hv; cases hv
                        simp only [World.cell?, hrow]
                        simp only [Option.isSome_none, Bool.false_eq_true, if_false, List.getElem?_toArray]
                        rw [List.append_assoc, List.getElem?_append_left (by simp; omega), List.getElem?_take, if_pos ho']
                        simp only [World.cell?, hc1] at hv1
                        simpa using hv1
                      · rw [cell_of_block (setRow_block w b _ (b := b') hbb)]; exact hv1
                  · have hle : LeM I (addCells I b (o + rows.length * i.size) ws) := by
                      intro b' o' v hv
                      simp only [addCells]
                      split
                      · rename_i hb'
                        obtain ⟨rfl, hb1, _⟩ := hb'
                        rw [hI2 o' hb1] at hv; cases hv
                      · exact hv
                    have := RepL.slice (I := addCells I b (o + rows.length * i.size) ws) (μ := μ) (vs := []) (as := []) b o cap i.size (ws' ++ ws) (rows ++ new.map (·.map AV.dis)) .yes ?_ ?_ hrows (by rw [hrl]; exact hroom) (fun h => by cases h) .nil
                    · rwa [hrl] at this
                    · intro j v hv
                      by_cases hj : j < ws'.length
                      · rw [List.getElem?_append_left hj] at hv
                        exact hle _ _ _ (hr j v hv)
                      · rw [List.getElem?_append_right (by omega)] at hv
                        have hj2 := (List.getElem?_eq_some_iff.1 hv).1
                        simp only [addCells, true_and]
                        rw [if_pos ⟨by omega, by omega⟩, ← hv]
                        congr 1; omega
                    · rw [List.flatten_append]
                      exact (h2.mono hle (.refl μ)).append (hdis.mono hle (.refl μ))
                  · intro b' o' len' cap' sz'' rows'' hv ha
                    cases ha
                    cases hv
                    refine ⟨⟨_, e', setRow_heap w b c _ e' (0, 0) hc1, ?_⟩, ?_⟩
                    · simp; omega
                    · intro k hk
                      rw [Nat.add_mul] at hk
                      simp only [addCells]
                      rw [if_neg (by omega)]
                      exact hI2 k (by omega)
                  · intro g _; simp [tc]
              · -- a new block
                have hg : cap < rows.length + new.length := by omega
                have hfit := growslice_fits (old := cap) (need := rows.length + new.length) (bytes := i.bytes) hg (by
                  have := Nat.mul_le_mul c4 c5; omega)
                have hrun := append_grow_run (P := P) (w := w) (ty := ty) h0 h1 ht hu hxd hi hz hlen (o5 w.drew fun _ _ => rfl) (n5 w.drew fun _ _ => rfl) hg (by omega) hfit
                have hcapge := grownCap_ge w (rows.length + new.length) cap e
                obtain ⟨p1, p2, p3⟩ := (pushed_drew w (os.toArray ++ ws.toArray ++ Builtin.zeroCells z.cells (grownCap w (rows.length + new.length) cap e - (rows.length + new.length))) e).imm hI (ws := os ++ ws)
                  (fun j v hv => by
                    have hj := (List.getElem?_eq_some_iff.1 hv).1
                    rw [Array.getElem?_append_left (by simpa using hj)]
                    simpa using hv)
                  (fun v hv => by rcases List.mem_append.1 hv with h | h; exact o2 v h; exact n2 v h) (fun g => tc g (.slice base rows.length cap) (.slice sz rows own) ≠ 0)
                refine ⟨_, _, _, hrun, p1, p2, ?_, ?_, ?_⟩
                · have := RepL.slice (I := addBlock I w.heap.size (os ++ ws)) (μ := μ) (vs := []) (as := []) w.heap.size 0 (grownCap w (rows.length + new.length) cap e) i.size (os ++ ws) (rows ++ new.map (·.map AV.dis)) .yes p3
                    (by rw [List.flatten_append]; exact (o1.mono p1.le (.refl μ)).append (hdis.mono p1.le (.refl μ))) hrows (by rw [hrl]; exact hcapge) (fun h => by cases h) .nil
                  rwa [hrl] at this
                · intro b' o' len' cap' sz'' rows'' hv ha
                  cases ha
                  cases hv
                  refine ⟨⟨_, e, (pushed_drew w _ e).new, ?_⟩, ?_⟩
                  · have e1 : (rows.length + new.length) * i.size = rows.length * i.size + new.length * i.size := Nat.add_mul _ _ _
                    have e2 : (grownCap w (rows.length + new.length) cap e) * i.size = (grownCap w (rows.length + new.length) cap e - (rows.length + new.length)) * i.size + (rows.length + new.length) * i.size := by
                      rw [← Nat.add_mul]; congr 1; omega
                    simp [size_zeroCells, hzs, o3, n3]
                    omega
                  · intro k hk
                    simp only [addBlock, if_true]
                    rw [List.getElem?_eq_none]
                    simp; rw [o3, n3]; rw [Nat.add_mul] at hk; omega
                · intro g hg; simp only [tc]; rw [if_neg (by omega)]; exact Nat.zero_le _
            · cases h
        · cases h
    · cases h
  · cases h

theorem wrap_small {n : Int} (h0 : 0 ≤ n) (h1 : n ≤ 2147483648) : IntKind.i64.wrap n = n := by
  simp [IntKind.wrap, IntKind.bits, IntKind.signed]
  omega

theorem amakeSlice_sound (hI : ImmOk I w) {t : TypeId} {vl vc : Value} {l c r : AV} (hl : Rep I μ vl l) (hc : Rep I μ vc c) (h : amakeSlice P t l c = some r) (A : Nat → Prop) :
    ∃ v' w' J, (Instr.makeSlice t vl vc).run P w = .ok v' w' ∧ Eff I w A J w' ∧ ImmOk J w' ∧ Rep J μ v' r ∧ SpareOk J w' v' r ∧ ∀ g, g < w.heap.size → tc g v' r = 0 := by
  unfold amakeSlice at h
  split at h
  · rename_i e k l k' c hd
    split at h
    · rename_i i hi
      split at h
      · rename_i z hz
        split at h
        · rename_i hb
          obtain ⟨h1, h2, h3, h4, h5, h6, h7⟩ := hb
          simp only [Option.some.injEq] at h; subst h
          cases hl; cases hc
          have hzo : OneCells z.cells.toList := fun v hv => List.all_eq_true.1 h7 v hv
          have hsz : size? P e = some i.size := by simp [size?, hi]
          have hw1 := wrap_small h1 (by omega)
          have hw2 := wrap_small (by omega) h3
          have hbytes : ¬ (281474976710656 < (i.bytes : Int) * c) := by
            have : (i.bytes : Int) * c ≤ 4096 * 2147483648 := by
              have a1 : (i.bytes : Int) * c ≤ (i.bytes : Int) * 2147483648 := Int.mul_le_mul_of_nonneg_left h3 (by omega)
              have a2 : (i.bytes : Int) * 2147483648 ≤ 4096 * 2147483648 := Int.mul_le_mul_of_nonneg_right (by omega) (by omega)
              omega
            omega
          have hneg : ¬ (c < 0) := by omega
          have hneg2 : ¬ (l < 0) := by omega
          have hlc : ¬ (c < l) := by omega
          have hC : ∃ C : Array Value, (Instr.makeSlice t (.int k l) (.int k' c)).run P w = .ok (.slice (some ⟨w.heap.size, 0, none⟩) l.toNat c.toNat) { w with heap := w.heap.push (.cells C e) } ∧ C.toList = (List.replicate c.toNat z.cells.toList).flatten := by
            by_cases hn : c.toNat * i.size = 0
            · have hc0 : c.toNat = 0 := by rcases Nat.mul_eq_zero.1 hn with h | h; exact h; omega
              refine ⟨#[], ?_, by simp [hc0]⟩
              simp [Instr.makeSlice, run_underlying hd, asInt, asIntOf, typeInfo, hi, hw1, hw2, hneg, hneg2, hlc, hbytes, size_run hsz, hn, newRow]
              congr 2; apply Array.ext'; simp
            · refine ⟨(Array.range (c.toNat * z.cells.size)).map (fun k => z.cells[k % z.cells.size]!), ?_, range_mod _ _⟩
              have hzr := zero_run (P := P) (t := e) (z := z) (by simp [hi, hz])
              simp [Instr.makeSlice, run_underlying hd, asInt, asIntOf, typeInfo, hi, hw1, hw2, hneg, hneg2, hlc, hbytes, size_run hsz, hn, hzr, newRow, h6]
          obtain ⟨C, hrun, hCl⟩ := hC
          have hflat : ∀ n, ((List.replicate n z.cells.toList).flatten).length = n * i.size := fun n => by simp [List.length_flatten, h6]
          have hCs : C.size = c.toNat * i.size := by rw [← Array.length_toList, hCl, hflat]
          have hle : l.toNat ≤ c.toNat := by omega
          obtain ⟨p1, p2, p3⟩ := (pushed_alloc w C e).imm hI (ws := (List.replicate l.toNat z.cells.toList).flatten)
            (fun j v hv => by
              have hj := (List.getElem?_eq_some_iff.1 hv).1
              rw [hflat] at hj
              have hj' : j < c.toNat * i.size := Nat.lt_of_lt_of_le hj (Nat.mul_le_mul_right _ hle)
              rw [← Array.getElem?_toList, hCl]
              rw [flatten_replicate_get _ _ _ (by simpa [h6] using hj)] at hv
              rw [flatten_replicate_get _ _ _ (by simpa [h6] using hj')]
              exact hv)
            (replicate_one hzo _) A
          have hrep : RepL (addBlock I w.heap.size (List.replicate l.toNat z.cells.toList).flatten) μ (List.replicate l.toNat z.cells.toList).flatten (List.replicate l.toNat (z.cells.toList.map ofCell)).flatten := replicate_rep (.ofCells _) _
          refine ⟨_, _, _, hrun, p1, p2, ?_, ?_, ?_⟩
          · have := RepL.slice (I := addBlock I w.heap.size (List.replicate l.toNat z.cells.toList).flatten) (μ := μ) (vs := []) (as := []) w.heap.size 0 c.toNat i.size _ (List.replicate l.toNat (z.cells.toList.map ofCell)) (if l = c then .full else .yes) p3 hrep
              (fun r hr => by simp at hr; rw [hr.2]; simp [h6]) (by simpa using hle) (fun h => by split at h; simp [*]; cases h) .nil
            simpa using this
          · intro b' o' len' cap' sz'' rows'' hv ha
            cases hv
            injection ha with e1 e2 e3
            subst e1
            refine ⟨⟨C, e, (pushed_alloc w C e).new, by rw [hCs]; omega⟩, fun k hk => ?_⟩
            simp only [addBlock, if_true]
            rw [List.getElem?_eq_none]
            rw [hflat]; omega
          · intro g hg
            simp only [tc]
            split
            · rename_i e1 e2
              injection e1 with e1 _ _
              injection e1 with e1
              subst e1
              rw [if_neg (by simp; omega)]
            · rfl
        · cases h
      · cases h
    · cases h
  · cases h
end
end Go.Eng
end

section
/-
  THE ENGINE, part 5: the pure operations, all in one; the frame's own variables; what is shared.
-/
set_option linter.unusedVariables false
set_option linter.unusedSimpArgs false
namespace Go.Eng

section
variable {P : Program} {I : Mem} {μ : List Nat} {lh : List (Option LCell)} {lv : List LV} {w : World}

/-- What a pure operation leaves. -/
def PureOk (P : Program) (I : Mem) (μ : List Nat) (lh : List (Option LCell)) (lv : List LV) (w : World) (cvs : List Value) (vs : List AV) (s : Sem Next) (r : AV) : Prop :=
  ∃ v' w' J, s.run P w = .ok (.value v') w' ∧ Eff I w (fun g => tcs g cvs vs ≠ 0) J w' ∧ ImmOk J w' ∧ TRep J μ lh lv v' r ∧ SpareOk J w' v' r ∧ ∀ g, g < w.heap.size → tc g v' r ≤ tcs g cvs vs

theorem PureOk.quiet {cvs : List Value} {vs : List AV} {s : Sem Value} {r : AV} (hI : ImmOk I w) (h : ∃ v', s.run P w = .ok v' w ∧ Rep I μ v' r ∧ NoOwn r) :
    PureOk P I μ lh lv w cvs vs (do pure (.value (← s))) r := by
  obtain ⟨v', h1, h2, h3⟩ := h
  exact ⟨v', w, I, by simp [h1], .refl _ _ _, hI, .of h2, h3.spare w v', fun g _ => by rw [h3.tc]; exact Nat.zero_le _⟩

theorem PureOk.quietT {cvs : List Value} {vs : List AV} {s : Sem Value} {r : AV} (hI : ImmOk I w) (h : ∃ v', s.run P w = .ok v' w ∧ TRep I μ lh lv v' r ∧ NoOwn r) :
    PureOk P I μ lh lv w cvs vs (do pure (.value (← s))) r := by
  obtain ⟨v', h1, h2, h3⟩ := h
  exact ⟨v', w, I, by simp [h1], .refl _ _ _, hI, h2, h3.spare w v', fun g _ => by rw [h3.tc]; exact Nat.zero_le _⟩

theorem TRep.repOf {v : Value} {a : AV} (h : TRep I μ lh lv v a) (ha : ∀ t g o, a ≠ .lp t g o) : Rep I μ v a := h.rep (by cases a <;> first | rfl | exact absurd rfl (ha _ _ _))

theorem args1 {xs : Array Operand} {ρ : Operand → Value} {x : Operand} (h : xs.toList = [x]) : xs.map ρ = #[ρ x] := by
  apply Array.ext'; simp [h]

/-- The operands of a builtin's call. -/
theorem call_operands (c : Call) (b : Builtin) (hc : c.callee = .builtin b) : c.operands.toList = c.args.toList := by
  simp [Call.operands, hc]

theorem builtin_run {o : Oper} {c : Call} {b : Builtin} (hop : o.op = .call c) (hc : c.callee = .builtin b) (ρ : Operand → Value) (w : World) :
    (execOp ρ o).run P w = (builtin b c.argTypes o.type (c.args.map fun | .const _ => true | _ => false) (c.args.map ρ)).run P w := by
  simp [execOp, hop, resolve, hc, invoke]
  rfl

theorem abuiltin_sound (hI : ImmOk I w) {o : Oper} {c : Call} {b : Builtin} (hop : o.op = .call c) (hc : c.callee = .builtin b) {ρ : Operand → Value} {vs : List AV} {r : AV}
    (hv : TRepL I μ lh lv (c.args.toList.map ρ) vs) (hs : AllSpare I w (c.args.toList.map ρ) vs) (h : abuiltin P o b c.argTypes vs = some r) :
    PureOk P I μ lh lv w (c.args.toList.map ρ) vs (execOp ρ o) r := by
  have hrun := builtin_run (P := P) hop hc ρ w
  have hargs : c.args.map ρ = (c.args.toList.map ρ).toArray := by apply Array.ext'; simp
  unfold PureOk
  rw [hrun, hargs]
  generalize c.args.toList.map ρ = cvs at *
  generalize (c.args.map fun | .const _ => true | _ => false : Array Bool) = cs
  have q : ∀ {s : Sem Value} {r : AV}, (∃ v', s.run P w = .ok v' w ∧ Rep I μ v' r ∧ NoOwn r) → PureOk P I μ lh lv w cvs vs (do pure (.value (← s))) r := fun h => .quiet hI h
  unfold abuiltin at h
  split at h
  · rename_i x
    obtain ⟨v, vs', rfl, h1, h2⟩ := hv.inv
    obtain rfl := h2.inv0
    split at h
    · rename_i t ht
      have hlp : Rep I μ v x := h1.repOf (by rintro t g o rfl; unfold alen at h; split at h <;> simp_all)
      exact q (alen_sound ht hlp h)
    · cases h
  · rename_i x y
    obtain ⟨v, vs', rfl, h1, h2⟩ := hv.inv
    obtain ⟨u, vs'', rfl, h3, h4⟩ := h2.inv
    obtain rfl := h4.inv0
    have hx : Rep I μ v x := h1.repOf (by rintro t g o rfl; revert h; unfold aappend; (repeat' split) <;> simp_all)
    have hy : Rep I μ u y := h3.repOf (by rintro t g o rfl; revert h; unfold aappend; (repeat' split) <;> simp_all [newRows])
    obtain ⟨v', w', J, e1, e2, e3, e4, e5, e6⟩ := aappend_sound (ty := o.type) hI hx hy (hs 0 v x rfl rfl) h
    refine ⟨v', w', J, ?_, e2.mono fun g hg => ?_, e3, .of e4, e5, fun g hg => ?_⟩
    · show ((do pure (Next.value (← Builtin.append_ c.argTypes o.type #[v, u])) : Sem Next).run P w) = _
      simp [e1]
    · simp only [zsum]; omega
    · have := e6 g hg; simp only [zsum]; omega
  · rename_i l
    split at h
    · rename_i ws hws
      obtain rfl := allVals_rep hv hws
      simp only [Option.map_eq_some_iff] at h
      obtain ⟨v, hv', rfl⟩ := h
      exact q ⟨v, semVal_run P hv' w, .ofVal v, ofVal_noOwn v⟩
    · cases h
  · rename_i l
    split at h
    · rename_i ws hws
      obtain rfl := allVals_rep hv hws
      simp only [Option.map_eq_some_iff] at h
      obtain ⟨v, hv', rfl⟩ := h
      exact q ⟨v, semVal_run P hv' w, .ofVal v, ofVal_noOwn v⟩
    · cases h
  · cases h

theorem take_len {α β : Type} {l : List α} {m : List β} (h : l.length = m.length) (n : Nat) : (l.take n).length = (m.take n).length := by simp [h]

theorem apure_sound (hI : ImmOk I w) {o : Oper} {ρ : Operand → Value} {vs : List AV} {r : AV} (hv : TRepL I μ lh lv (o.op.operands.toList.map ρ) vs) (hs : AllSpare I w (o.op.operands.toList.map ρ) vs)
    (h : apure P o vs = some r) : PureOk P I μ lh lv w (o.op.operands.toList.map ρ) vs (execOp ρ o) r := by
  unfold apure at h
  split at h
  · -- move
    rename_i x v hop
    simp only [hop, Op.operands] at hv hs ⊢
    simp only [Option.some.injEq] at h; subst h
    exact ⟨ρ x, w, I, by simp [execOp, hop], .refl _ _ _, hI, hv.uncons.1, hs 0 _ _ rfl rfl, fun g _ => by simp [zsum]⟩
  · -- assign
    rename_i x v hop
    simp only [hop, Op.operands] at hv hs ⊢
    simp only [Option.some.injEq] at h; subst h
    exact ⟨ρ x, w, I, by simp [execOp, hop], .refl _ _ _, hI, hv.uncons.1, hs 0 _ _ rfl rfl, fun g _ => by simp [zsum]⟩
  · -- pick
    rename_i x y z c a b hop
    simp only [hop, Op.operands] at hv hs ⊢
    have h1 := hv.uncons.1
    have h2 := hv.uncons.2.uncons.1
    have h3 := hv.uncons.2.uncons.2.uncons.1
    split at h
    · simp only [Option.some.injEq] at h; subst h
      have : ρ x = .bool true := toVal_trep h1 rfl
      exact ⟨ρ y, w, I, by simp [execOp, hop, this, asBool], .refl _ _ _, hI, h2, hs 1 _ _ rfl rfl, fun g _ => by simp [zsum]; omega⟩
    · simp only [Option.some.injEq] at h; subst h
      have : ρ x = .bool false := toVal_trep h1 rfl
      exact ⟨ρ z, w, I, by simp [execOp, hop, this, asBool], .refl _ _ _, hI, h3, hs 2 _ _ rfl rfl, fun g _ => by simp [zsum]; omega⟩
    · cases h
  · -- alloc
    rename_i vs' _ _ e hop
    simp only [Option.map_eq_some_iff] at h
    obtain ⟨cs, hcs, rfl⟩ := h
    obtain ⟨e', c, w', e1, e2, e3, e4⟩ := newCells_run hcs hv rfl
    obtain ⟨p1, p2, p3⟩ := e2.imm hI (ws := c.toList) (fun j v hv => by simpa using hv) e4 (fun g => tcs g (o.op.operands.toList.map ρ) vs' ≠ 0)
    exact ⟨_, w', _, e1, p1, p2, .of (.ref _ _ _ _ p3 (e3.mono p1.le (.refl μ)) .nil), fun _ _ _ _ _ _ _ h => (by cases h), fun g _ => Nat.zero_le _⟩
  · -- box
    rename_i vs' _ _ e x hop
    simp only [Option.map_eq_some_iff] at h
    obtain ⟨cs, hcs, rfl⟩ := h
    obtain ⟨e', c, w', e1, e2, e3, e4⟩ := newCells_run hcs hv rfl
    obtain ⟨p1, p2, p3⟩ := e2.imm hI (ws := c.toList) (fun j v hv => by simpa using hv) e4 (fun g => tcs g (o.op.operands.toList.map ρ) vs' ≠ 0)
    exact ⟨_, w', _, e1, p1, p2, .of (.ref _ _ _ _ p3 (e3.mono p1.le (.refl μ)) .nil), fun _ _ _ _ _ _ _ h => (by cases h), fun g _ => Nat.zero_le _⟩
  · -- build
    rename_i vs' _ _ t ps hop
    split at h
    · cases h
    · rename_i hlp
      have hops : o.op.operands.toList.map ρ = ps.toList.map fun p => ρ p.2 := by simp [hop, Op.operands]
      have h1 := hv.repL (by simpa using hlp)
      rw [hops] at h1
      have := PureOk.quiet (lh := lh) (lv := lv) (cvs := o.op.operands.toList.map ρ) (vs := vs') hI (abuild_sound (P := P) (w := w) ps h1 h)
      simpa [execOp, hop] using this
  · -- buildSlice
    rename_i vs' _ _ t n ps hop
    split at h
    · cases h
    · rename_i hlp
      have hops : o.op.operands.toList.map ρ = ps.toList.map fun p => ρ p.2 := by simp [hop, Op.operands]
      have h1 := hv.repL (by simpa using hlp)
      rw [hops] at h1
      obtain ⟨v', w', J, e1, e2, e3, e4, e5⟩ := abuildSlice_sound (P := P) hI ps h1 h (fun g => tcs g (o.op.operands.toList.map ρ) vs' ≠ 0)
      refine ⟨v', w', J, ?_, e2, e3, .of e4, e5.spare w' v', fun g _ => by rw [e5.tc]; exact Nat.zero_le _⟩
      simp only [execOp, hop, Sem.run_bind, e1, Result.andThen_ok, Sem.run_pure]
  · -- load
    rename_i t x cs hop
    simp only [hop, Op.operands] at hv hs ⊢
    have h1 := hv.uncons.1
    have hcore : ∃ v', (Instr.loadAt t (ρ x)).run P w = .ok v' w ∧ Rep I μ v' r ∧ NoOwn r := by
      generalize ρ x = u at h1
      cases h1 with
      | ref b k ws cs hr h2 _ =>
        obtain ⟨v', e1, e2, e3⟩ := readCells_sound (P := P) (hr.cells hI) (hr.one hI) h2 h
        exact ⟨v', by simpa [Instr.loadAt, Instr.sureAddr] using e1, e2, e3⟩
    have := PureOk.quiet (lh := lh) (lv := lv) (cvs := [ρ x]) (vs := [.ref cs]) hI hcore
    simpa [execOp, hop] using this
  · -- nilCheck
    rename_i x v hop
    simp only [hop, Op.operands] at hv hs ⊢
    obtain ⟨rfl, h2, h3⟩ := anilCheck_sound hv.uncons.1 h
    refine ⟨ρ x, w, I, ?_, .refl _ _ _, hI, hv.uncons.1, hs 0 _ _ rfl rfl, fun g _ => by simp [zsum]⟩
    rcases h2 with ⟨b, k, e⟩ | ⟨g, f, c, e⟩ <;> simp [execOp, hop, e]
  · -- binOp
    rename_i op t x y yt a b hop
    simp only [hop, Op.operands] at hv hs ⊢
    have := PureOk.quiet (lh := lh) (lv := lv) (cvs := [ρ x, ρ y]) (vs := [a, b]) hI (abin_sound (P := P) (w := w) hv.uncons.1 hv.uncons.2.uncons.1 h)
    simpa [execOp, hop] using this
  · -- unOp
    rename_i op t x v hop
    simp only [hop, Op.operands] at hv hs ⊢
    split at h
    · rename_i u hu
      obtain rfl := toVal_trep hv.uncons.1 hu
      simp only [Option.map_eq_some_iff] at h
      obtain ⟨v', hv', rfl⟩ := h
      have := PureOk.quiet (lh := lh) (lv := lv) (cvs := [ρ x]) (vs := [v]) hI ⟨v', semVal_run P hv' w, .ofVal (I := I) (μ := μ) v', ofVal_noOwn v'⟩
      simpa [execOp, hop] using this
    · cases h
  · -- convert
    rename_i s d x v hop
    simp only [hop, Op.operands] at hv hs ⊢
    have h1 : Rep I μ (ρ x) v := hv.uncons.1.repOf (by rintro t g k rfl; simp [aconvert] at h)
    have := PureOk.quiet (lh := lh) (lv := lv) (cvs := [ρ x]) (vs := [v]) hI (aconvert_sound (P := P) (w := w) hI h1 h)
    simpa [execOp, hop] using this
  · -- makeInterface
    rename_i t x v hop
    simp only [hop, Op.operands] at hv hs ⊢
    have := PureOk.quiet (lh := lh) (lv := lv) (cvs := [ρ x]) (vs := [v]) hI (amakeInterface_sound (P := P) (w := w) hv.uncons.1 h)
    simpa [execOp, hop] using this
  · -- makeFunc
    rename_i vs' _ _ fn a b hop
    split at h
    · cases h
    · rename_i hlp
      simp only [Option.some.injEq] at h; subst h
      have h1 := hv.repL (by simpa using hlp)
      have e1 : (o.op.operands.toList.map ρ).take a.size = (a.map ρ).toList := by simp [hop, Op.operands, List.take_append_of_le_length]
      have e2 : (o.op.operands.toList.map ρ).drop a.size = (b.map ρ).toList := by simp [hop, Op.operands, List.drop_append_of_le_length]
      have r1 := h1.take a.size
      have r2 := h1.drop a.size
      rw [e1] at r1; rw [e2] at r2
      refine ⟨.func fn (a.map ρ) (b.map ρ), w, I, by simp [execOp, hop, Instr.makeFunc], .refl _ _ _, hI, .of (.func _ _ _ _ _ r1 r2 .nil), fun _ _ _ _ _ _ h => (by cases h), fun g _ => Nat.zero_le _⟩
  · -- makeSlice
    rename_i t x y l c hop
    simp only [hop, Op.operands] at hv hs ⊢
    have h1 : Rep I μ (ρ x) l := hv.uncons.1.repOf (by rintro t g k rfl; revert h; unfold amakeSlice; (repeat' split) <;> simp_all)
    have h2 : Rep I μ (ρ y) c := hv.uncons.2.uncons.1.repOf (by rintro t g k rfl; revert h; unfold amakeSlice; (repeat' split) <;> simp_all)
    obtain ⟨v', w', J, e1, e2, e3, e4, e5, e6⟩ := amakeSlice_sound (P := P) hI h1 h2 h (fun g => tcs g [ρ x, ρ y] [l, c] ≠ 0)
    exact ⟨v', w', J, by simp [execOp, hop, e1], e2, e3, .of e4, e5, fun g hg => by rw [e6 g hg]; exact Nat.zero_le _⟩
  · -- slice
    rename_i t x l hh m a as hop
    have hlp : (a :: as).any AV.isLp = false := by
      cases hl : (a :: as).any AV.isLp with
      | false => rfl
      | true => simp [hl] at h
    have h1 := hv.repL hlp
    have hcore : ∃ v', (Instr.sliceAt t (ρ x) (l.map ρ) (hh.map ρ) (m.map ρ)).run P w = .ok v' w ∧ Rep I μ v' r ∧ NoOwn r := by
      have hlp0 := hlp
      cases l <;> cases hh <;> cases m
      · -- 000
        simp only [Option.isSome_some, Option.isSome_none, if_true, if_false, Bool.false_eq_true, List.head?_cons, List.tail_cons, true_and, hlp] at h
        simp only [Option.map_some, Option.map_none]
        simp [hop, Op.operands] at h1
        exact aslice_sound h1.uncons.1 (.inl ⟨rfl, rfl⟩) (.inl ⟨rfl, rfl⟩) (.inl ⟨rfl, rfl⟩) h
      · -- 001
        rcases as with _ | ⟨b0, as⟩
        · simp at h
        simp only [Option.isSome_some, Option.isSome_none, if_true, if_false, Bool.false_eq_true, List.head?_cons, List.tail_cons, true_and, hlp] at h
        simp only [Option.map_some, Option.map_none]
        simp [hop, Op.operands] at h1
        exact aslice_sound h1.uncons.1 (.inl ⟨rfl, rfl⟩) (.inl ⟨rfl, rfl⟩) (.inr ⟨_, _, rfl, rfl, h1.uncons.2.uncons.1⟩) h
      · -- 010
        rcases as with _ | ⟨b0, as⟩
        · simp at h
        simp only [Option.isSome_some, Option.isSome_none, if_true, if_false, Bool.false_eq_true, List.head?_cons, List.tail_cons, true_and, hlp] at h
        simp only [Option.map_some, Option.map_none]
        simp [hop, Op.operands] at h1
        exact aslice_sound h1.uncons.1 (.inl ⟨rfl, rfl⟩) (.inr ⟨_, _, rfl, rfl, h1.uncons.2.uncons.1⟩) (.inl ⟨rfl, rfl⟩) h
      · -- 011
        rcases as with _ | ⟨b0, as⟩
        · simp at h
        rcases as with _ | ⟨b1, as⟩
        · simp at h
        simp only [Option.isSome_some, Option.isSome_none, if_true, if_false, Bool.false_eq_true, List.head?_cons, List.tail_cons, true_and, hlp] at h
        simp only [Option.map_some, Option.map_none]
        simp [hop, Op.operands] at h1
        exact aslice_sound h1.uncons.1 (.inl ⟨rfl, rfl⟩) (.inr ⟨_, _, rfl, rfl, h1.uncons.2.uncons.1⟩) (.inr ⟨_, _, rfl, rfl, h1.uncons.2.uncons.2.uncons.1⟩) h
      · -- 100
        rcases as with _ | ⟨b0, as⟩
        · simp at h
        simp only [Option.isSome_some, Option.isSome_none, if_true, if_false, Bool.false_eq_true, List.head?_cons, List.tail_cons, true_and, hlp] at h
        simp only [Option.map_some, Option.map_none]
        simp [hop, Op.operands] at h1
        exact aslice_sound h1.uncons.1 (.inr ⟨_, _, rfl, rfl, h1.uncons.2.uncons.1⟩) (.inl ⟨rfl, rfl⟩) (.inl ⟨rfl, rfl⟩) h
      · -- 101
        rcases as with _ | ⟨b0, as⟩
        · simp at h
        rcases as with _ | ⟨b1, as⟩
        · simp at h
        simp only [Option.isSome_some, Option.isSome_none, if_true, if_false, Bool.false_eq_true, List.head?_cons, List.tail_cons, true_and, hlp] at h
        simp only [Option.map_some, Option.map_none]
        simp [hop, Op.operands] at h1
        exact aslice_sound h1.uncons.1 (.inr ⟨_, _, rfl, rfl, h1.uncons.2.uncons.1⟩) (.inl ⟨rfl, rfl⟩) (.inr ⟨_, _, rfl, rfl, h1.uncons.2.uncons.2.uncons.1⟩) h
      · -- 110
        rcases as with _ | ⟨b0, as⟩
        · simp at h
        rcases as with _ | ⟨b1, as⟩
        · simp at h
        simp only [Option.isSome_some, Option.isSome_none, if_true, if_false, Bool.false_eq_true, List.head?_cons, List.tail_cons, true_and, hlp] at h
        simp only [Option.map_some, Option.map_none]
        simp [hop, Op.operands] at h1
        exact aslice_sound h1.uncons.1 (.inr ⟨_, _, rfl, rfl, h1.uncons.2.uncons.1⟩) (.inr ⟨_, _, rfl, rfl, h1.uncons.2.uncons.2.uncons.1⟩) (.inl ⟨rfl, rfl⟩) h
      · -- 111
        rcases as with _ | ⟨b0, as⟩
        · simp at h
        rcases as with _ | ⟨b1, as⟩
        · simp at h
        rcases as with _ | ⟨b2, as⟩
        · simp at h
        simp only [Option.isSome_some, Option.isSome_none, if_true, if_false, Bool.false_eq_true, List.head?_cons, List.tail_cons, true_and, hlp] at h
        simp only [Option.map_some, Option.map_none]
        simp [hop, Op.operands] at h1
        exact aslice_sound h1.uncons.1 (.inr ⟨_, _, rfl, rfl, h1.uncons.2.uncons.1⟩) (.inr ⟨_, _, rfl, rfl, h1.uncons.2.uncons.2.uncons.1⟩) (.inr ⟨_, _, rfl, rfl, h1.uncons.2.uncons.2.uncons.2.uncons.1⟩) h
    have := PureOk.quiet (lh := lh) (lv := lv) (cvs := o.op.operands.toList.map ρ) (vs := a :: as) hI hcore
    simpa [execOp, hop] using this
  · -- fieldAddr
    rename_i t x i v hop
    simp only [hop, Op.operands] at hv hs ⊢
    have := PureOk.quietT (cvs := [ρ x]) (vs := [v]) hI (afieldAddr_sound (P := P) (w := w) hv.uncons.1 h)
    simpa [execOp, hop] using this
  · -- field
    rename_i t x i v hop
    simp only [hop, Op.operands] at hv hs ⊢
    have h1 : Rep I μ (ρ x) v := hv.uncons.1.repOf (by rintro t g k rfl; revert h; unfold afield; (repeat' split) <;> simp_all)
    have := PureOk.quiet (lh := lh) (lv := lv) (cvs := [ρ x]) (vs := [v]) hI (afield_sound (P := P) (w := w) h1 h)
    simpa [execOp, hop] using this
  · -- indexAddr
    rename_i t x y v i hop
    simp only [hop, Op.operands] at hv hs ⊢
    have := PureOk.quietT (cvs := [ρ x, ρ y]) (vs := [v, i]) hI (aindexAddr_sound (P := P) (w := w) hv.uncons.1 hv.uncons.2.uncons.1 h)
    simpa [execOp, hop] using this
  · -- index
    rename_i t x y v i hop
    simp only [hop, Op.operands] at hv hs ⊢
    have h1 : Rep I μ (ρ x) v := hv.uncons.1.repOf (by rintro t g k rfl; revert h; unfold aindex; (repeat' split) <;> simp_all)
    have h2 : Rep I μ (ρ y) i := hv.uncons.2.uncons.1.repOf (by rintro t g k rfl; revert h; unfold aindex; (repeat' split) <;> simp_all)
    have := PureOk.quiet (lh := lh) (lv := lv) (cvs := [ρ x, ρ y]) (vs := [v, i]) hI (aindex_sound (P := P) (w := w) h1 h2 h)
    simpa [execOp, hop] using this
  · -- typeAssert
    rename_i x xt t ok v hop
    simp only [hop, Op.operands] at hv hs ⊢
    have h1 : Rep I μ (ρ x) v := hv.uncons.1.repOf (by rintro t g k rfl; revert h; unfold atypeAssert; (repeat' split) <;> simp_all)
    have := PureOk.quiet (lh := lh) (lv := lv) (cvs := [ρ x]) (vs := [v]) hI (atypeAssert_sound (P := P) (w := w) (x := xt) h1 h)
    simpa [execOp, hop] using this
  · -- extract
    rename_i x i v hop
    simp only [hop, Op.operands] at hv hs ⊢
    have h1 : Rep I μ (ρ x) v := hv.uncons.1.repOf (by rintro t g k rfl; simp [aextract] at h)
    have := PureOk.quiet (lh := lh) (lv := lv) (cvs := [ρ x]) (vs := [v]) hI (aextract_sound (P := P) (w := w) h1 h)
    simpa [execOp, hop] using this
  · -- call
    rename_i vs' _ _ c hop
    split at h
    · rename_i b hc
      have hops : o.op.operands.toList = c.args.toList := by simp [hop, Op.operands, call_operands c b hc]
      rw [hops] at hv hs ⊢
      exact abuiltin_sound hI hop hc hv hs h
    · cases h
  · cases h
end
end Go.Eng
end

section
/-
  THE ENGINE, part 6: a frame at work stands to the model's frame (FInv); a step of one operation keeps it.
-/
set_option linter.unusedVariables false
set_option linter.unusedSimpArgs false
namespace Go.Eng

/-- A block of variables of one's own. -/
def BlockOk (I : Mem) (μ : List Nat) (w : World) (b : Nat) (ws : List Value) (cs : List AV) : Prop :=
  (∃ e, w.heap[b]? = some (.cells ws.toArray e (0, 0))) ∧ RepL I μ ws cs ∧ OneCells ws ∧ AllSpare I w ws cs ∧ ∀ o, I b o = none

def LocOk (I : Mem) (μ : List Nat) (w : World) : LV → Option LCell → Prop
  | some (b, ws), some (_, cs) => BlockOk I μ w b ws cs
  | none, none => True
  | _, _ => False

structure HInv (I : Mem) (μ : List Nat) (HV : List (List Value)) (w : World) (H : Heap) : Prop where
  imm : ImmOk I w
  l1 : μ.length = H.length
  l2 : HV.length = H.length
  ok : ∀ (id : Nat) b ws cs, μ[id]? = some b → HV[id]? = some ws → H[id]? = some cs → BlockOk I μ w b ws cs

structure FInv (I : Mem) (μ : List Nat) (HV : List (List Value)) (lv : List LV) (w : World) (vs : List Value) (tm : List AV) (lh : List (Option LCell)) (H : Heap) : Prop where
  h : HInv I μ HV w H
  tms : TRepL I μ lh lv vs tm
  sp : AllSpare I w vs tm
  ll : lv.length = lh.length
  lo : ∀ (t : Nat) d c, lv[t]? = some d → lh[t]? = some c → LocOk I μ w d c
  one : ∀ b, μ.count b + tcss b HV H + zsum (lc b) lv lh + tcs b vs tm ≤ 1

section
variable {P : Program} {I J : Mem} {μ ν : List Nat} {HV : List (List Value)} {lh : List (Option LCell)} {lv : List LV} {w w' : World} {vs : List Value} {tm : List AV} {H : Heap} {A : Nat → Prop}

theorem tcs_pos {b : Nat} {vs : List Value} {as : List AV} (h : 0 < tcs b vs as) : ∃ (i : Nat) (v : Value) (a : AV), vs[i]? = some v ∧ as[i]? = some a ∧ 0 < tc b v a := zsum_pos (tc b) h

theorem tc_pos {b : Nat} {v : Value} {a : AV} (h : 0 < tc b v a) : ∃ o len cap s sz rows, v = .slice (some ⟨b, o, s⟩) len cap ∧ a = .slice sz rows .yes := by
  unfold tc at h
  split at h
  · rename_i x l c s r
    split at h
    · rename_i e; obtain ⟨b', o, s'⟩ := x; simp only at e; subst e; exact ⟨o, l, c, s', s, r, rfl, rfl⟩
    · omega
  · omega

theorem AllSpare.lt {vs : List Value} {as : List AV} (h : AllSpare I w vs as) (hr : TRepL I μ lh lv vs as) {b : Nat} (hb : 0 < tcs b vs as) : b < w.heap.size := by
  obtain ⟨i, v, a, hv, ha, hp⟩ := tcs_pos hb
  obtain ⟨o, len, cap, s, sz, rows, rfl, rfl⟩ := tc_pos hp
  have h1 := hr.2 i _ _ hv ha
  rcases slice_inv h1 with ⟨_, e⟩ | ⟨b', o', cap', ws, e, _⟩ | ⟨_, _, _, _, ho⟩
  rotate_left 2
  · rcases ho with h | ⟨h, _⟩ <;> cases h
  · cases e
  · cases e
    obtain ⟨⟨c, e, hc, _⟩, _⟩ := h i _ _ hv ha _ _ _ _ _ _ rfl rfl
    exact (Array.getElem?_eq_some_iff.1 hc).1

theorem AllSpare.eff {vs : List Value} {as : List AV} (h : AllSpare I w vs as) (he : Eff I w A J w') (hA : ∀ b, A b → tcs b vs as = 0) : AllSpare J w' vs as := fun i v a hv ha =>
  he.spare (h i v a hv ha) fun b hb => by
    have := hA b hb
    have h2 := zsum_get (tc b) hv ha
    simp only [tcs] at this
    omega

theorem BlockOk.eff {b : Nat} {ws : List Value} {cs : List AV} (h : BlockOk I μ w b ws cs) (he : Eff I w A J w') (hμ : LeN μ ν) (hb : ¬ A b) (hA : ∀ g, A g → tcs g ws cs = 0) : BlockOk J ν w' b ws cs := by
  obtain ⟨⟨e, h1⟩, h2, h3, h4, h5⟩ := h
  have hlt : b < w.heap.size := (Array.getElem?_eq_some_iff.1 h1).1
  exact ⟨⟨e, by rw [he.keep b hlt hb]; exact h1⟩, h2.mono he.le hμ, h3, h4.eff he hA, he.none hlt hb h5⟩

theorem BlockOk.lt {b : Nat} {ws : List Value} {cs : List AV} (h : BlockOk I μ w b ws cs) : b < w.heap.size := by
  obtain ⟨⟨e, h1⟩, _⟩ := h
  exact (Array.getElem?_eq_some_iff.1 h1).1

theorem BlockOk.trepl {b : Nat} {ws : List Value} {cs : List AV} (h : BlockOk I μ w b ws cs) : TRepL I μ lh lv ws cs := ⟨h.2.1.length, fun i v a hv ha => .of (h.2.1.get hv ha)⟩

theorem BlockOk.ltc {b g : Nat} {ws : List Value} {cs : List AV} (h : BlockOk I μ w b ws cs) (hg : 0 < tcs g ws cs) : g < w.heap.size :=
  AllSpare.lt (lh := []) (lv := []) h.2.2.2.1 h.trepl hg

/-- The heap's part behind a step. -/
theorem HInv.eff (h : HInv I μ HV w H) (he : Eff I w A J w') (hJ : ImmOk J w') (hA : ∀ b, A b → μ.count b + tcss b HV H = 0) : HInv J μ HV w' H := by
  refine ⟨hJ, h.l1, h.l2, fun id b ws cs hb hw hc => (h.ok id b ws cs hb hw hc).eff he (.refl μ) (fun hAb => ?_) (fun g hg => ?_)⟩
  · have := hA b hAb
    have h2 : 0 < μ.count b := List.count_pos_iff.2 (List.mem_of_getElem? hb)
    omega
  · have := hA g hg
    have h2 := zsum_get (tcs g) hw hc
    simp only [tcss] at this
    omega

theorem HInv.lt (h : HInv I μ HV w H) {b : Nat} (hb : 0 < μ.count b + tcss b HV H) : b < w.heap.size := by
  rcases Nat.eq_zero_or_pos (μ.count b) with h0 | h0
  · have : 0 < zsum (tcs b) HV H := by simp only [tcss] at hb; omega
    obtain ⟨i, ws, cs, hw, hc, hp⟩ := zsum_pos _ this
    have hi : i < μ.length := by rw [h.l1]; exact (List.getElem?_eq_some_iff.1 hc).1
    exact (h.ok i _ ws cs (List.getElem?_eq_getElem hi) hw hc).ltc hp
  · obtain ⟨i, hi⟩ := List.getElem?_of_mem (List.count_pos_iff.1 h0)
    have hl := (List.getElem?_eq_some_iff.1 hi).1
    have h1 : i < HV.length := by rw [h.l2, ← h.l1]; exact hl
    have h2 : i < H.length := by rw [← h.l1]; exact hl
    exact (h.ok i b _ _ hi (List.getElem?_eq_getElem h1) (List.getElem?_eq_getElem h2)).lt

theorem loc_lt (hlo : ∀ (t : Nat) d c, lv[t]? = some d → lh[t]? = some c → LocOk I μ w d c) {b : Nat} (hb : 0 < zsum (lc b) lv lh) : b < w.heap.size := by
  obtain ⟨t, d, c, hd, hc, hp⟩ := zsum_pos _ hb
  have := hlo t d c hd hc
  unfold lc at hp
  split at hp
  · rename_i b' ws g cs
    by_cases e : b' = b
    · subst e; exact BlockOk.lt this
    · rw [if_neg e] at hp; exact BlockOk.ltc this (by omega)
  · omega

theorem loc_eff (hlo : ∀ (t : Nat) d c, lv[t]? = some d → lh[t]? = some c → LocOk I μ w d c) (he : Eff I w A J w') (hμ : LeN μ ν) (hA : ∀ b, A b → zsum (lc b) lv lh = 0) :
    ∀ (t : Nat) d c, lv[t]? = some d → lh[t]? = some c → LocOk J ν w' d c := by
  intro t d c hd hc
  have h1 := hlo t d c hd hc
  have h2 : ∀ b, A b → lc b d c = 0 := fun b hb => by have := hA b hb; have := zsum_get (lc b) hd hc; omega
  unfold LocOk at *
  split
  · rename_i b ws g cs
    refine BlockOk.eff h1 he hμ (fun hb => ?_) (fun g' hg => ?_)
    · have := h2 b hb; simp [lc] at this
    · have := h2 g' hg; simp only [lc] at this; omega
  · trivial
  · rename_i hx hy
    split at h1
    · exact absurd rfl (hx _ _ _ _ rfl)
    · exact absurd rfl (hy rfl)
    · exact h1

theorem FInv.lt (h : FInv I μ HV lv w vs tm lh H) {b : Nat} (hb : 0 < μ.count b + tcss b HV H + zsum (lc b) lv lh + tcs b vs tm) : b < w.heap.size := by
  by_cases h1 : 0 < μ.count b + tcss b HV H
  · exact h.h.lt h1
  · by_cases h2 : 0 < zsum (lc b) lv lh
    · exact loc_lt h.lo h2
    · exact h.sp.lt h.tms (by omega)

/-! ### slots set and disowned -/

theorem TRepL.set {vs : List Value} {as : List AV} (h : TRepL I μ lh lv vs as) (i : Nat) {v : Value} {a : AV} (k : TRep I μ lh lv v a) : TRepL I μ lh lv (vs.set i v) (as.set i a) := by
  refine ⟨by simp [h.1], fun j w b hw hb => ?_⟩
  rw [List.getElem?_set] at hw hb
  by_cases hij : i = j
  · rw [if_pos hij] at hw hb
    split at hw
    · rename_i hl; rw [if_pos (by rw [← h.1]; exact hl)] at hb; cases hw; cases hb; exact k
    · simp at hw
  · rw [if_neg hij] at hw hb; exact h.2 j w b hw hb

theorem AllSpare.set {vs : List Value} {as : List AV} (hl : vs.length = as.length) (h : AllSpare I w vs as) (i : Nat) {v : Value} {a : AV} (k : SpareOk I w v a) : AllSpare I w (vs.set i v) (as.set i a) := by
  intro j u b hw hb
  rw [List.getElem?_set] at hw hb
  by_cases hij : i = j
  · rw [if_pos hij] at hw hb
    split at hw
    · rename_i hl'; rw [if_pos (by rw [← hl]; exact hl')] at hb; cases hw; cases hb; exact k
    · simp at hw
  · rw [if_neg hij] at hw hb; exact h j u b hw hb

theorem tcs_set_le {vs : List Value} {as : List AV} (hl : vs.length = as.length) (i : Nat) (v : Value) (a : AV) (b : Nat) : tcs b (vs.set i v) (as.set i a) ≤ tcs b vs as + tc b v a := by
  by_cases hi : i < vs.length
  · have := zsum_set (tc b) hl (a' := v) (b' := a) (List.getElem?_eq_getElem hi) (List.getElem?_eq_getElem (by rw [← hl]; exact hi))
    simp only [tcs]; omega
  · rw [List.set_eq_of_length_le (by omega), List.set_eq_of_length_le (by omega)]; simp only [tcs]; omega

def putV (vs : List Value) (d : Option Tmp) (v : Value) : List Value :=
  match d with
  | some t => vs.set t v
  | none => vs

theorem modify_dis (as : List AV) (t : Nat) : (as.modify t AV.dis).length = as.length := by simp

theorem TRepL.modify {vs : List Value} {as : List AV} (h : TRepL I μ lh lv vs as) (t : Nat) : TRepL I μ lh lv vs (as.modify t AV.dis) := by
  refine ⟨by simp [h.1], fun j w b hw hb => ?_⟩
  rw [List.getElem?_modify] at hb
  cases ha : as[j]? with
  | none => simp [ha] at hb
  | some a =>
    simp only [ha, Option.map_some, Option.some.injEq] at hb
    have h1 := h.2 j w a hw ha
    by_cases e : t = j
    · simp [e] at hb; subst hb; exact h1.dis
    · simp [e] at hb; subst hb; exact h1

theorem AllSpare.modify {vs : List Value} {as : List AV} (h : AllSpare I w vs as) (t : Nat) : AllSpare I w vs (as.modify t AV.dis) := by
  intro j u b hw hb
  rw [List.getElem?_modify] at hb
  cases ha : as[j]? with
  | none => simp [ha] at hb
  | some a =>
    simp only [ha, Option.map_some, Option.some.injEq] at hb
    by_cases e : t = j
    · simp [e] at hb; subst hb; exact SpareOk.dis I w _ _
    · simp [e] at hb; subst hb; exact h j u a hw ha

theorem tcs_modify {vs : List Value} {as : List AV} (t b : Nat) {v : Value} {a : AV} (hl : vs.length = as.length) (hv : vs[t]? = some v) (ha : as[t]? = some a) : tcs b vs (as.modify t AV.dis) + tc b v a = tcs b vs as := by
  have e : as.modify t AV.dis = as.set t a.dis := by
    apply List.ext_getElem?
    intro j
    rw [List.getElem?_modify, List.getElem?_set]
    by_cases h : t = j
    · subst h
      obtain ⟨h1, h2⟩ := List.getElem?_eq_some_iff.1 ha
      simp [h1, h2]
    · simp [h]
  have e2 : vs.set t v = vs := by
    apply List.ext_getElem?
    intro j
    rw [List.getElem?_set]
    by_cases h : t = j
    · subst h
      obtain ⟨h1, h2⟩ := List.getElem?_eq_some_iff.1 hv
      simp [h1, h2]
    · simp [h]
  have := zsum_set (tc b) hl (a' := v) (b' := a.dis) hv ha
  rw [e2, ← e, tc_dis] at this
  simpa using this

/-- The concrete operands. -/
def cevals (vs : List Value) : Operand → Value
  | .tmp t => vs.getD t undef
  | .const v => v
  | .global g => .pointer (some ⟨g, 0, none⟩)
  | .func f => .func (.func f) #[] #[]

theorem aeval_rep (h : TRepL I μ lh lv vs tm) (x : Operand) : TRep I μ lh lv (cevals vs x) (aeval tm x) := by
  cases x with
  | tmp t =>
    simp only [cevals, aeval, List.getD_eq_getElem?_getD]
    cases ha : tm[t]? with
    | none => simp; exact .any _ .nil
    | some a =>
      have ht : t < vs.length := by rw [h.1]; exact (List.getElem?_eq_some_iff.1 ha).1
      simp [List.getElem?_eq_getElem ht]
      exact h.2 t _ a (List.getElem?_eq_getElem ht) ha
  | const v => exact .of (.ofVal v)
  | global g => exact .of (.val _ .nil)
  | func f => exact .of (.func _ _ _ _ _ .nil .nil .nil)

theorem aeval_spare (h : TRepL I μ lh lv vs tm) (hs : AllSpare I w vs tm) (x : Operand) : SpareOk I w (cevals vs x) (aeval tm x) := by
  cases x with
  | tmp t =>
    simp only [cevals, aeval, List.getD_eq_getElem?_getD]
    cases ha : tm[t]? with
    | none => simp; intro _ _ _ _ _ _ _ h; cases h
    | some a =>
      have ht : t < vs.length := by rw [h.1]; exact (List.getElem?_eq_some_iff.1 ha).1
      simp [List.getElem?_eq_getElem ht]
      exact hs t _ a (List.getElem?_eq_getElem ht) ha
  | const v => exact (ofVal_noOwn v).spare w _
  | global g => intro _ _ _ _ _ _ _ h; cases h
  | func f => intro _ _ _ _ _ _ _ h; cases h

theorem aeval_tc_other (x : Operand) (b : Nat) (hx : ∀ t, x ≠ .tmp t) : tc b (cevals vs x) (aeval tm x) = 0 := by
  cases x with
  | tmp t => exact absurd rfl (hx t)
  | const v => exact (ofVal_noOwn v).tc b _
  | global g => rfl
  | func f => rfl

theorem vals_length (s : List AV) : ∀ (xs : List Operand) (ms : List Bool), (vals s xs ms).length = xs.length
  | [], _ => rfl
  | x :: r, b :: bs => by simp [vals, vals_length s r bs]
  | x :: r, [] => by simp [vals, vals_length s r []]

theorem vals_get (s : List AV) : ∀ (xs : List Operand) (ms : List Bool) (i : Nat) (x : Operand), xs[i]? = some x → (vals s xs ms)[i]? = some (if ms.getD i false then aeval s x else (aeval s x).dis)
  | [], _, i, x, h => by simp at h
  | y :: r, b :: bs, 0, x, h => by simp at h; subst h; simp [vals]
  | y :: r, [], 0, x, h => by simp at h; subst h; simp [vals]
  | y :: r, b :: bs, i + 1, x, h => by simpa [vals] using vals_get s r bs i x (by simpa using h)
  | y :: r, [], i + 1, x, h => by simpa [vals] using vals_get s r [] i x (by simpa using h)

theorem vals_rep (h : TRepL I μ lh lv vs tm) (xs : List Operand) (ms : List Bool) : TRepL I μ lh lv (xs.map (cevals vs)) (vals tm xs ms) := by
  refine ⟨by simp [vals_length], fun i v a hv ha => ?_⟩
  rw [List.getElem?_map] at hv
  cases hx : xs[i]? with
  | none => simp [hx] at hv
  | some x =>
    simp [hx] at hv; subst hv
    rw [vals_get _ _ _ _ _ hx] at ha
    simp only [Option.some.injEq] at ha; subst ha
    split
    · exact aeval_rep h x
    · exact (aeval_rep h x).dis

theorem vals_spare (h : TRepL I μ lh lv vs tm) (hs : AllSpare I w vs tm) (xs : List Operand) (ms : List Bool) : AllSpare I w (xs.map (cevals vs)) (vals tm xs ms) := by
  intro i v a hv ha
  rw [List.getElem?_map] at hv
  cases hx : xs[i]? with
  | none => simp [hx] at hv
  | some x =>
    simp [hx] at hv; subst hv
    rw [vals_get _ _ _ _ _ hx] at ha
    simp only [Option.some.injEq] at ha; subst ha
    split
    · exact aeval_spare h hs x
    · exact SpareOk.dis I w _ _

theorem disT_rep (h : TRepL I μ lh lv vs tm) : ∀ (xs : List Operand) (ms : List Bool), TRepL I μ lh lv vs (disT tm xs ms) := by
  intro xs
  induction xs generalizing tm with
  | nil => intro ms; simpa [disT] using h
  | cons x xs ih =>
    intro ms
    cases ms with
    | nil => cases x <;> simpa [disT] using h
    | cons b bs => cases x <;> cases b <;> simp only [disT] <;> first | exact ih (h.modify _) bs | exact ih h bs

theorem disT_spare (h : AllSpare I w vs tm) : ∀ (xs : List Operand) (ms : List Bool), AllSpare I w vs (disT tm xs ms) := by
  intro xs
  induction xs generalizing tm with
  | nil => intro ms; simpa [disT] using h
  | cons x xs ih =>
    intro ms
    cases ms with
    | nil => cases x <;> simpa [disT] using h
    | cons b bs => cases x <;> cases b <;> simp only [disT] <;> first | exact ih (h.modify _) bs | exact ih h bs

theorem aeval_modify {t : Nat} {x : Operand} (hx : x ≠ .tmp t) (s : List AV) : aeval (s.modify t AV.dis) x = aeval s x := by
  cases x with
  | tmp u =>
    have : t ≠ u := fun h => hx (by rw [h])
    simp [aeval, List.getD_eq_getElem?_getD, List.getElem?_modify, this]
  | _ => rfl

theorem dis_dis (a : AV) : a.dis.dis = a.dis := by
  cases a with
  | slice sz rows own => cases own <;> rfl
  | _ => rfl

theorem aeval_modify_dis (t : Nat) (x : Operand) (s : List AV) : (aeval (s.modify t AV.dis) x).dis = (aeval s x).dis := by
  by_cases hx : x = .tmp t
  · subst hx
    simp only [aeval, List.getD_eq_getElem?_getD, List.getElem?_modify]
    cases s[t]? with
    | none => simp
    | some a => simp [dis_dis]
  · rw [aeval_modify hx]

theorem vals_modify {t : Nat} (s : List AV) : ∀ (xs : List Operand) (ms : List Bool), t ∉ movedTmps xs ms → vals (s.modify t AV.dis) xs ms = vals s xs ms
  | [], ms, _ => by cases ms <;> rfl
  | x :: r, [], h => by
    simp only [vals]
    rw [aeval_modify_dis, vals_modify s r [] (by cases r <;> simp [movedTmps])]
  | x :: r, b :: bs, h => by
    simp only [vals]
    have h2 : t ∉ movedTmps r bs := by
      intro hm; apply h
      cases x <;> cases b <;> simp [movedTmps, hm]
    rw [vals_modify s r bs h2, aeval_modify_dis]
    cases b with
    | false => rfl
    | true =>
      have : x ≠ .tmp t := by rintro rfl; apply h; simp [movedTmps]
      simp [aeval_modify this]

/-- What is taken is not left. -/
theorem moved_count (hl : vs.length = tm.length) (b : Nat) : ∀ (xs : List Operand) (ms : List Bool), (movedTmps xs ms).Nodup →
    tcs b (xs.map (cevals vs)) (vals tm xs ms) + tcs b vs (disT tm xs ms) = tcs b vs tm := by
  intro xs
  induction xs generalizing tm with
  | nil => intro ms _; simp [disT, vals, zsum]
  | cons x xs ih =>
    intro ms hn
    cases ms with
    | nil =>
      have h1 : ∀ (xs : List Operand), tcs b (xs.map (cevals vs)) (vals tm xs []) = 0 := by
        intro xs; induction xs with
        | nil => rfl
        | cons x xs ih => simp only [List.map_cons, vals, zsum, tc_dis]; simpa using ih
      have h2 : disT tm (x :: xs) [] = tm := by cases x <;> rfl
      rw [h1, h2]; omega
    | cons m ms =>
      cases m with
      | false =>
        have hn' : (movedTmps xs ms).Nodup := by cases x <;> simpa [movedTmps] using hn
        have := ih hl ms hn'
        have h2 : disT tm (x :: xs) (false :: ms) = disT tm xs ms := by cases x <;> rfl
        rw [h2]; simp only [List.map_cons, vals, zsum, if_false, tc_dis, Bool.false_eq_true, tcs] at *; omega
      | true =>
        by_cases hx : ∃ t, x = .tmp t
        · obtain ⟨t, rfl⟩ := hx
          simp only [movedTmps, List.nodup_cons] at hn
          have h3 := ih (tm := tm.modify t AV.dis) (by simp [hl]) ms hn.2
          rw [vals_modify tm xs ms hn.1] at h3
          simp only [List.map_cons, vals, zsum, if_true, disT]
          by_cases ht : t < tm.length
          · have ht2 : t < vs.length := by rw [hl]; exact ht
            have h4 := tcs_modify t b (v := vs[t]) (a := tm[t]) hl (List.getElem?_eq_getElem ht2) (List.getElem?_eq_getElem ht)
            have e1 : cevals vs (.tmp t) = vs[t] := by simp [cevals, List.getD_eq_getElem?_getD, List.getElem?_eq_getElem ht2]
            have e2 : aeval tm (.tmp t) = tm[t] := by simp [aeval, List.getD_eq_getElem?_getD, List.getElem?_eq_getElem ht]
            rw [e1, e2]; simp only [tcs] at *; omega
          · have e : tm.modify t AV.dis = tm := by
              apply List.ext_getElem?
              intro j
              rw [List.getElem?_modify]
              by_cases h : t = j
              · subst h; simp [List.getElem?_eq_none (Nat.le_of_not_lt ht)]
              · simp [h]
            have e2 : aeval tm (.tmp t) = .any := by simp [aeval, List.getD_eq_getElem?_getD, List.getElem?_eq_none (Nat.le_of_not_lt ht)]
            rw [e] at h3 ⊢
            rw [e2]
            have : tc b (cevals vs (.tmp t)) .any = 0 := by unfold tc; split <;> simp_all
            rw [this]; simp only [tcs] at *; omega
        · have hx' : ∀ t, x ≠ .tmp t := fun t h => hx ⟨t, h⟩
          have hn' : (movedTmps xs ms).Nodup := by cases x <;> first | simpa [movedTmps] using hn | exact absurd rfl (hx' _)
          have h3 := ih hl ms hn'
          have h2 : disT tm (x :: xs) (true :: ms) = disT tm xs ms := by cases x <;> first | rfl | exact absurd rfl (hx' _)
          rw [h2]; simp only [List.map_cons, vals, zsum, if_true]
          rw [aeval_tc_other x b hx']; simp only [tcs] at *; omega
end
end Go.Eng
end

section
/-
  THE ENGINE, part 7: one operation's step, but for calls.
-/
set_option linter.unusedVariables false
set_option linter.unusedSimpArgs false
namespace Go.Eng

/-- The blocks that a frame may write. -/
def tok (μ : List Nat) (HV : List (List Value)) (H : Heap) (lv : List LV) (lh : List (Option LCell)) (vs : List Value) (tm : List AV) (b : Nat) : Nat :=
  μ.count b + tcss b HV H + zsum (lc b) lv lh + tcs b vs tm

section
variable {P : Program} {I J : Mem} {μ ν : List Nat} {HV : List (List Value)} {lh : List (Option LCell)} {lv : List LV} {w w' : World} {vs : List Value} {tm : List AV} {H : Heap} {A : Nat → Prop}

theorem FInv.eff (h : FInv I μ HV lv w vs tm lh H) (he : Eff I w A J w') (hJ : ImmOk J w') (hA : ∀ b, A b → tok μ HV H lv lh vs tm b = 0) : FInv J μ HV lv w' vs tm lh H := by
  unfold tok at hA
  exact ⟨h.h.eff he hJ fun b hb => by have := hA b hb; omega, ⟨h.tms.1, fun i v a hv ha => (h.tms.2 i v a hv ha).mono he.le (.refl μ)⟩, h.sp.eff he fun b hb => by have := hA b hb; omega, h.ll,
    loc_eff h.lo he (.refl μ) fun b hb => by have := hA b hb; omega, h.one⟩

theorem FInv.dis (h : FInv I μ HV lv w vs tm lh H) (xs : List Operand) (ms : List Bool) (hn : (movedTmps xs ms).Nodup) : FInv I μ HV lv w vs (disT tm xs ms) lh H :=
  ⟨h.h, disT_rep h.tms xs ms, disT_spare h.sp xs ms, h.ll, h.lo, fun b => by have := h.one b; have := moved_count h.tms.1 b xs ms hn; omega⟩

theorem FInv.put (h : FInv I μ HV lv w vs tm lh H) (d : Option Tmp) {v : Value} {r : AV} (hr : TRep I μ lh lv v r) (hs : SpareOk I w v r) (hc : ∀ b, tok μ HV H lv lh vs tm b + tc b v r ≤ 1) :
    FInv I μ HV lv w (putV vs d v) (putT tm d r) lh H := by
  cases d with
  | none => exact h
  | some t =>
    refine ⟨h.h, h.tms.set t hr, h.sp.set h.tms.1 t hs, h.ll, h.lo, fun b => ?_⟩
    have := hc b
    have h2 := tcs_set_le h.tms.1 t v r b
    simp only [putV, putT]
    unfold tok at this
    omega

theorem tok_put_le (hl : vs.length = tm.length) (d : Option Tmp) (v : Value) (r : AV) (b : Nat) : tok μ HV H lv lh (putV vs d v) (putT tm d r) b ≤ tok μ HV H lv lh vs tm b + tc b v r := by
  cases d with
  | none => simp [putV, putT]
  | some t => have := tcs_set_le hl t v r b; simp only [putV, putT]; unfold tok; omega

/-- A step from one state of a frame to the next. -/
structure Stp (I : Mem) (μ : List Nat) (HV : List (List Value)) (lv : List LV) (w : World) (vs : List Value) (tm : List AV) (lh : List (Option LCell)) (H : Heap)
    (J : Mem) (ν : List Nat) (HV' : List (List Value)) (lv' : List LV) (w' : World) (vs' : List Value) (tm' : List AV) (lh' : List (Option LCell)) (H' : Heap) : Prop where
  inv : FInv J ν HV' lv' w' vs' tm' lh' H'
  eff : Eff I w (fun b => 0 < tok μ HV H lv lh vs tm b) J w'
  tok : ∀ b, 0 < tok ν HV' H' lv' lh' vs' tm' b → 0 < tok μ HV H lv lh vs tm b ∨ w.heap.size ≤ b
  mu : LeN μ ν

theorem pure_step (h : FInv I μ HV lv w vs tm lh H) {o : Oper} {ms : List Bool} {r : AV} (hn : (movedTmps o.op.operands.toList ms).Nodup) (hr : apure P o (vals tm o.op.operands.toList ms) = some r) :
    ∃ v' w' J, (execOp (cevals vs) o).run P w = .ok (.value v') w' ∧
      Stp I μ HV lv w vs tm lh H J μ HV lv w' (putV vs o.dst v') (putT (disT tm o.op.operands.toList ms) o.dst r) lh H := by
  obtain ⟨v', w', J, e1, e2, e3, e4, e5, e6⟩ := apure_sound h.h.imm (vals_rep h.tms o.op.operands.toList ms) (vals_spare h.tms h.sp _ ms) hr
  have hd := h.dis o.op.operands.toList ms hn
  have hmc := fun b => moved_count h.tms.1 b o.op.operands.toList ms hn
  have hA : ∀ b, tcs b (o.op.operands.toList.map (cevals vs)) (vals tm o.op.operands.toList ms) ≠ 0 → Eng.tok μ HV H lv lh vs (disT tm o.op.operands.toList ms) b = 0 := fun b hb => by
    have h1 := h.one b
    have h2 := hmc b
    unfold Eng.tok; omega
  have h2 := hd.eff e2 e3 hA
  have hcnt : ∀ b, Eng.tok μ HV H lv lh vs (disT tm o.op.operands.toList ms) b + tc b v' r ≤ 1 := fun b => by
    by_cases hb : b < w.heap.size
    · have := e6 b hb; have := h.one b; have := hmc b; unfold Eng.tok; omega
    · have : Eng.tok μ HV H lv lh vs (disT tm o.op.operands.toList ms) b = 0 := by
        rcases Nat.eq_zero_or_pos (Eng.tok μ HV H lv lh vs (disT tm o.op.operands.toList ms) b) with h0 | h0
        · exact h0
        · exact absurd (hd.lt h0) hb
      have := tc_le b v' r; omega
  refine ⟨v', w', J, e1, h2.put o.dst e4 e5 hcnt, e2.mono fun b hb => ?_, fun b hb => ?_, .refl μ⟩
  · have := hmc b; unfold Eng.tok; omega
  · by_cases hbs : b < w.heap.size
    · left
      have h1 := tok_put_le (μ := μ) (HV := HV) (H := H) (lv := lv) (lh := lh) hd.tms.1 o.dst v' r b
      have := e6 b hbs
      have := hmc b
      unfold Eng.tok at *; omega
    · right; omega

/-! ### a block that is written -/

theorem writeCells_eq : ∀ (new : List AV) (cs : List AV) (off : Nat), off + new.length ≤ cs.length → writeCells cs off new = cs.take off ++ new ++ cs.drop (off + new.length)
  | [], cs, off, h => by simp [writeCells]
  | v :: r, cs, off, h => by
    simp only [List.length_cons] at h
    rw [writeCells, writeCells_eq r _ _ (by simp; omega)]
    apply List.ext_getElem?
    intro j
    simp only [List.getElem?_append, List.getElem?_take, List.getElem?_drop, List.getElem?_set, List.length_append, List.length_take, List.length_set, List.length_cons]
    have e1 : min (off + 1) cs.length = off + 1 := by omega
    have e2 : min off cs.length = off := by omega
    rw [e1, e2]
    by_cases h1 : j < off
    · rw [if_pos (by omega), if_pos (by omega), if_pos (by omega), if_neg (by omega), if_pos (by omega), if_pos (by omega), if_pos (by omega)]
    · by_cases h2 : j = off
      · subst h2
        rw [if_pos (by omega), if_pos (by omega), if_pos (by omega), if_pos rfl, if_pos (by omega), if_pos (by omega), if_neg (by omega)]
        simp
      · by_cases h3 : j < off + 1 + r.length
        · rw [if_pos (by omega), if_neg (by omega), if_pos (by omega), if_neg (by omega)]
          have : j - off = (j - (off + 1)) + 1 := by omega
          rw [this]; simp
        · rw [if_neg (by omega), if_neg (by omega), if_neg (by omega)]
          congr 1; omega

theorem tcs_split {ws : List Value} {cs : List AV} (hl : ws.length = cs.length) (b n : Nat) : tcs b ws cs = tcs b (ws.take n) (cs.take n) + tcs b (ws.drop n) (cs.drop n) := by
  have := zsum_append (tc b) (l := ws.take n) (l' := ws.drop n) (m := cs.take n) (m' := cs.drop n) (by simp [hl])
  simpa using this

theorem AllSpare.append {ws us : List Value} {cs ds : List AV} (hl : ws.length = cs.length) (h : AllSpare I w ws cs) (k : AllSpare I w us ds) : AllSpare I w (ws ++ us) (cs ++ ds) := by
  intro i v a hv ha
  by_cases hi : i < ws.length
  · rw [List.getElem?_append_left hi] at hv
    rw [List.getElem?_append_left (by omega)] at ha
    exact h i v a hv ha
  · rw [List.getElem?_append_right (by omega)] at hv
    rw [List.getElem?_append_right (by omega), ← hl] at ha
    exact k _ v a hv ha

theorem AllSpare.take {ws : List Value} {cs : List AV} (h : AllSpare I w ws cs) (n : Nat) : AllSpare I w (ws.take n) (cs.take n) := by
  intro i v a hv ha
  rw [List.getElem?_take] at hv ha
  split at hv
  · rename_i hi; rw [if_pos hi] at ha; exact h i v a hv ha
  · cases hv

theorem AllSpare.drop {ws : List Value} {cs : List AV} (h : AllSpare I w ws cs) (n : Nat) : AllSpare I w (ws.drop n) (cs.drop n) := by
  intro i v a hv ha
  rw [List.getElem?_drop] at hv ha
  exact h _ v a hv ha

/-- What a stored value brings: its cells, with no more spare places than it has. -/
theorem scells_rep {v : Value} {a : AV} {cs : List AV} (hr : Rep I μ v a) (hs : SpareOk I w v a) (h : a.scells = some cs) :
    RepL I μ v.cells.toList cs ∧ OneCells v.cells.toList ∧ AllSpare I w v.cells.toList cs ∧ ∀ b, tcs b v.cells.toList cs ≤ tc b v a := by
  unfold AV.scells at h
  split at h
  · rename_i sz rows own
    simp only [Option.some.injEq] at h; subst h
    obtain ⟨h1, h2⟩ := cells_rep (cs := [.slice sz rows own]) hr rfl
    have e : v.cells.toList = [v] := by cases hr <;> rfl
    rw [e] at h1 h2 ⊢
    refine ⟨h1, h2, ?_, fun b => by simp [zsum]⟩
    intro i u c hu hc
    cases i with
    | zero => simp at hu hc; subst hu hc; exact hs
    | succ i => simp at hu
  · simp only [Option.map_eq_some_iff] at h
    obtain ⟨l, hl, rfl⟩ := h
    obtain ⟨h1, h2⟩ := cells_rep hr hl
    refine ⟨h1.dis, h2, ?_, fun b => by rw [tcs_dis]; exact Nat.zero_le _⟩
    intro i u c hu hc
    rw [List.getElem?_map] at hc
    cases hx : l[i]? with
    | none => simp [hx] at hc
    | some x => simp [hx] at hc; subst hc; exact SpareOk.dis I w _ _

theorem store_run (hI : ImmOk I w) {b off n : Nat} {ws : List Value} {cs new : List AV} {t : TypeId} {v : Value} {a : AV} (hB : BlockOk I μ w b ws cs) (hr : Rep I μ v a) (hs : SpareOk I w v a) (hn : a.scells = some new)
    (hsz : size? P t = some n) (hl : new.length = n) (hle : off + n ≤ cs.length) (hb : tc b v a = 0) (hb0 : tcs b ws cs = 0) :
    ∃ w' ws', (Instr.storeAt t (.pointer (some ⟨b, off, none⟩)) v).run P w = .ok () w' ∧ Eff I w (fun g => g = b) I w' ∧ ImmOk I w' ∧ BlockOk I μ w' b ws' (writeCells cs off new) ∧
      ∀ g, tcs g ws' (writeCells cs off new) ≤ tcs g ws cs + tc g v a := by
  obtain ⟨⟨e, h1⟩, h2, h3, h4, h5⟩ := hB
  obtain ⟨n1, n2, n3, n4⟩ := scells_rep hr hs hn
  have hlw := h2.length
  have hln := n1.length
  have hst := run_storeCells_at P b off e v.cells.toList 0 ws.toArray w h1 (by simp at hln ⊢; omega) n2
  simp only [Nat.add_zero, List.size_toArray] at hst
  have hrow := setRow_heap w b ws.toArray (ws.take off ++ v.cells.toList ++ ws.drop (off + v.cells.toList.length)).toArray e (0, 0) h1
  have hef : Eff I w (fun g => g = b) I (w.setRow b (ws.take off ++ v.cells.toList ++ ws.drop (off + v.cells.toList.length)).toArray) :=
    ⟨.refl I, fun _ _ _ h => .inl h, fun g _ hg => setRow_block w b _ hg, by simp [World.setRow], rfl, rfl, rfl⟩
  refine ⟨w.setRow b (ws.take off ++ v.cells.toList ++ ws.drop (off + v.cells.toList.length)).toArray, ws.take off ++ v.cells.toList ++ ws.drop (off + v.cells.toList.length), ?_, hef, ?_, ?_, ?_⟩
  · have hne : ¬ (v.cells.size ≠ n) := by simp at hln; omega
    simp [Instr.storeAt, Instr.sureAddr, storeVar, size_run hsz, hst]
    simpa using hne
  · intro b' o v hv
    obtain ⟨x1, x2⟩ := hI b' o v hv
    refine ⟨?_, x2⟩
    by_cases hbb : b' = b
    · subst hbb; rw [h5 o] at hv; cases hv
    · rw [cell_of_block (setRow_block w b _ (b := b') hbb)]; exact x1
  · rw [writeCells_eq _ _ _ (by omega)]
    rw [show off + new.length = off + v.cells.toList.length by omega]
    refine ⟨⟨e, hrow⟩, ((h2.take off).append n1).append (h2.drop _), ?_, ?_, h5⟩
    · intro u hu
      rcases List.mem_append.1 hu with hu | hu
      · rcases List.mem_append.1 hu with hu | hu
        · exact h3 u (List.mem_of_mem_take hu)
        · exact n2 u hu
      · exact h3 u (List.mem_of_mem_drop hu)
    · have k0 : ∀ n, tcs b (ws.take n) (cs.take n) = 0 ∧ tcs b (ws.drop n) (cs.drop n) = 0 := fun n => by have := tcs_split hlw b n; omega
      refine AllSpare.append (by simp [hln, hlw]) (AllSpare.append (by simp [hlw]) ((h4.take off).eff hef fun g hg => by subst hg; exact (k0 off).1) (n3.eff hef fun g hg => by subst hg; have := n4 g; omega)) ((h4.drop _).eff hef fun g hg => by subst hg; exact (k0 _).2)
  · intro g
    rw [writeCells_eq _ _ _ (by omega), show off + new.length = off + v.cells.toList.length by omega]
    have e1 := zsum_append (tc g) (l := ws.take off ++ v.cells.toList) (l' := ws.drop (off + v.cells.toList.length)) (m := cs.take off ++ new) (m' := cs.drop (off + v.cells.toList.length)) (by simp [hln, hlw])
    have e2 := zsum_append (tc g) (l := ws.take off) (l' := v.cells.toList) (m := cs.take off) (m' := new) (by simp [hlw])
    have e3 := tcs_split hlw g off
    have e4 := tcs_split (ws := ws.drop off) (cs := cs.drop off) (by simp [hlw]) g v.cells.toList.length
    rw [List.drop_drop, List.drop_drop] at e4
    have := n4 g
    simp only [tcs] at *
    rw [e1, e2]; omega

theorem set_self {α : Type} {l : List α} {i : Nat} {a : α} (h : l[i]? = some a) : l.set i a = l := by
  apply List.ext_getElem?
  intro j
  rw [List.getElem?_set]
  by_cases hj : i = j
  · subst hj
    obtain ⟨h1, h2⟩ := List.getElem?_eq_some_iff.1 h
    simp [h1, h2]
  · simp [hj]

/-- One of the frame's own variables turns. -/
theorem FInv.setLoc (h : FInv I μ HV lv w vs tm lh H) {l : Nat} {d d' : LV} {c c' : Option LCell} (hd : lv[l]? = some d) (hc : lh[l]? = some c) (he : Eff I w A I w') (hI : ImmOk I w')
    (hA : ∀ g, A g → Eng.tok μ HV H lv lh vs tm g = lc g d c) (hok : LocOk I μ w' d' c') (htr : ∀ v a, TRep I μ lh lv v a → TRep I μ (lh.set l c') (lv.set l d') v a)
    (hcnt : ∀ g, Eng.tok μ HV H lv lh vs tm g + lc g d' c' ≤ 1 + lc g d c) : FInv I μ HV (lv.set l d') w' vs tm (lh.set l c') H := by
  have hz : ∀ g, A g → zsum (lc g) (lv.set l none) (lh.set l none) = 0 ∧ μ.count g + tcss g HV H = 0 ∧ tcs g vs tm = 0 := fun g hg => by
    have h1 := hA g hg
    have h2 := zsum_set (lc g) h.ll (a' := none) (b' := none) hd hc
    have h3 : lc g none none = 0 := rfl
    unfold Eng.tok at h1
    omega
  refine ⟨h.h.eff he hI fun b hb => (hz b hb).2.1, ⟨h.tms.1, fun i v a hv ha => htr v a (h.tms.2 i v a hv ha)⟩, h.sp.eff he fun b hb => (hz b hb).2.2, by simp [h.ll], ?_, ?_⟩
  · intro t dd cc hdd hcc
    by_cases e : l = t
    · subst e
      rw [List.getElem?_set] at hdd hcc
      simp only [if_true] at hdd hcc
      rw [if_pos (List.getElem?_eq_some_iff.1 hd).1] at hdd
      rw [if_pos (List.getElem?_eq_some_iff.1 hc).1] at hcc
      cases hdd; cases hcc; exact hok
    · have hdd' : lv[t]? = some dd := by rw [List.getElem?_set_ne e] at hdd; exact hdd
      have hcc' : lh[t]? = some cc := by rw [List.getElem?_set_ne e] at hcc; exact hcc
      have h1 := h.lo t dd cc hdd' hcc'
      have h2 : ∀ b, A b → lc b dd cc = 0 := fun b hb => by
        have h3 := (hz b hb).1
        have h4 := zsum_get (lc b) (l := lv.set l none) (m := lh.set l none) (i := t) (by rw [List.getElem?_set_ne e]; exact hdd') (by rw [List.getElem?_set_ne e]; exact hcc')
        omega
      have := loc_eff (lv := [dd]) (lh := [cc]) (fun t' d1 c1 hd1 hc1 => by
        cases t' with
        | zero => simp at hd1 hc1; subst hd1 hc1; exact h1
        | succ t' => simp at hd1) he (.refl μ) (fun b hb => by simp [zsum, h2 b hb]) 0 dd cc rfl rfl
      exact this
  · intro g
    have h1 := hcnt g
    have h2 := zsum_set (lc g) h.ll (a' := d') (b' := c') hd hc
    unfold Eng.tok at h1
    omega

theorem tok_setLoc (hl : lv.length = lh.length) {l : Nat} {d d' : LV} {c c' : Option LCell} (hd : lv[l]? = some d) (hc : lh[l]? = some c) (g : Nat) :
    Eng.tok μ HV H (lv.set l d') (lh.set l c') vs tm g + lc g d c = Eng.tok μ HV H lv lh vs tm g + lc g d' c' := by
  have h2 := zsum_set (lc g) hl (a' := d') (b' := c') hd hc
  unfold Eng.tok; omega

/-- What TRep looks at of a variable. -/
theorem TRep.setLoc {l g : Nat} {b : Nat} {ws ws' : List Value} {cs cs' : List AV} (hd : lv[l]? = some (some (b, ws))) (hc : lh[l]? = some (some (g, cs))) {v : Value} {a : AV} (h : TRep I μ lh lv v a) :
    TRep I μ (lh.set l (some (g, cs'))) (lv.set l (some (b, ws'))) v a := by
  cases a with
  | lp t g1 off =>
    obtain ⟨g', cs1, b1, ws1, e1, e2, e3, b', e4, e5⟩ := h
    by_cases e : l = t
    · subst e
      rw [hc] at e1; rw [hd] at e2
      cases e1; cases e2
      exact ⟨g, cs', b, ws', by rw [List.getElem?_set, if_pos rfl, if_pos (List.getElem?_eq_some_iff.1 hc).1], by rw [List.getElem?_set, if_pos rfl, if_pos (List.getElem?_eq_some_iff.1 hd).1], e3, b', e4, e5⟩
    · exact ⟨g', cs1, b1, ws1, by rw [List.getElem?_set_ne e]; exact e1, by rw [List.getElem?_set_ne e]; exact e2, e3, b', e4, e5⟩
  | _ => exact h

theorem TRep.newLoc {l g : Nat} {b : Nat} {ws : List Value} {cs : List AV} {d : LV} {c : Option LCell} (hd : lv[l]? = some d) (hc : lh[l]? = some c) (hg : ∀ g0 cs0, c = some (g0, cs0) → g = g0 + 1) {v : Value} {a : AV} (h : TRep I μ lh lv v a) :
    TRep I μ (lh.set l (some (g, cs))) (lv.set l (some (b, ws))) v a := by
  cases a with
  | lp t g1 off =>
    obtain ⟨g', cs1, b1, ws1, e1, e2, e3, b', e4, e5⟩ := h
    by_cases e : l = t
    · subst e
      rw [hc] at e1
      cases e1
      have := hg g' cs1 rfl
      exact ⟨g, cs, b, ws, by rw [List.getElem?_set, if_pos rfl, if_pos (List.getElem?_eq_some_iff.1 hc).1], by rw [List.getElem?_set, if_pos rfl, if_pos (List.getElem?_eq_some_iff.1 hd).1], by omega, b', e4, fun hgg => by omega⟩
    · exact ⟨g', cs1, b1, ws1, by rw [List.getElem?_set_ne e]; exact e1, by rw [List.getElem?_set_ne e]; exact e2, e3, b', e4, e5⟩
  | _ => exact h

theorem newCells_noOwn {o : Oper} {avs : List AV} {cs : List AV} (h : newCells P o avs = some cs) (ws : List Value) : (∀ b, tcs b ws cs = 0) ∧ ∀ (I : Mem) (w : World), AllSpare I w ws cs := by
  have key : ∀ a ∈ cs, NoOwn a := by
    unfold newCells at h
    split at h
    · unfold zeroCells at h
      split at h
      · split at h
        · simp only [Option.some.injEq] at h; subst h
          intro a ha; simp at ha; obtain ⟨x, _, rfl⟩ := ha; exact ofCell_noOwn x
        · cases h
      · cases h
    · simp only [Option.map_eq_some_iff] at h
      obtain ⟨l, _, rfl⟩ := h
      intro a ha; simp at ha; obtain ⟨x, _, rfl⟩ := ha; exact .dis x
    · cases h
  refine ⟨fun b => ?_, fun I w i v a hv ha => (key a (List.mem_of_getElem? ha)).spare w v⟩
  rcases Nat.eq_zero_or_pos (tcs b ws cs) with h0 | h0
  · exact h0
  · obtain ⟨i, v, a, hv, ha, hp⟩ := tcs_pos h0
    rw [(key a (List.mem_of_getElem? ha)).tc] at hp; omega
end
end Go.Eng
end

section
/-
  THE ENGINE, part 8: steps in a frame's own variables and in the heap.
-/
set_option linter.unusedVariables false
set_option linter.unusedSimpArgs false
namespace Go.Eng

/-- What an operation that is no call hands to its slot. -/
def NextVal (n : Next) (v : Value) : Prop := n = .value v ∨ (n = .skip ∧ v = undef)

section
variable {P : Program} {cfg : FuncId → FCfg} {I J : Mem} {μ ν : List Nat} {HV : List (List Value)} {lh : List (Option LCell)} {lv : List LV} {w w' : World} {vs : List Value} {tm : List AV} {H : Heap} {A : Nat → Prop}

theorem FInv.lv_get (h : FInv I μ HV lv w vs tm lh H) {l : Nat} {c : Option LCell} (hc : lh[l]? = some c) : ∃ d, lv[l]? = some d ∧ LocOk I μ w d c := by
  have hl : l < lv.length := by rw [h.ll]; exact (List.getElem?_eq_some_iff.1 hc).1
  exact ⟨lv[l], List.getElem?_eq_getElem hl, h.lo l _ c (List.getElem?_eq_getElem hl) hc⟩

theorem tok_lt (h : FInv I μ HV lv w vs tm lh H) {b : Nat} (hb : ¬ b < w.heap.size) : tok μ HV H lv lh vs tm b = 0 := by
  rcases Nat.eq_zero_or_pos (tok μ HV H lv lh vs tm b) with h0 | h0
  · exact h0
  · exact absurd (h.lt h0) hb

theorem tok_dis_le (h : FInv I μ HV lv w vs tm lh H) (xs : List Operand) (ms : List Bool) (hn : (movedTmps xs ms).Nodup) (b : Nat) :
    tok μ HV H lv lh vs (disT tm xs ms) b + tcs b (xs.map (cevals vs)) (vals tm xs ms) = tok μ HV H lv lh vs tm b := by
  have := moved_count h.tms.1 b xs ms hn
  unfold tok; omega

theorem set_set_self {α : Type} {l : List α} {i : Nat} {a : α} (h : l[i]? = some a) : l.set i a = l := set_self h

theorem loc_step (h : FInv I μ HV lv w vs tm lh H) {f : FuncId} {o : Oper} {ms : List Bool} (hn : (movedTmps o.op.operands.toList ms).Nodup) {l : Nat} {wr : Bool} {c c' : Option LCell} {r : AV}
    (hcl : acls cfg f o (vals tm o.op.operands.toList ms) = .loc l wr) (hc : lh[l]? = some c) (hr : aloc P cfg f o (vals tm o.op.operands.toList ms) c = some (r, c')) :
    ∃ n v' w' lv', (execOp (cevals vs) o).run P w = .ok n w' ∧ NextVal n v' ∧
      Stp I μ HV lv w vs tm lh H I μ HV lv' w' (putV vs o.dst v') (putT (disT tm o.op.operands.toList ms) o.dst r) (lh.set l c') H := by
  have hv := vals_rep h.tms o.op.operands.toList ms
  have hs := vals_spare h.tms h.sp o.op.operands.toList ms
  have hd := h.dis o.op.operands.toList ms hn
  have htd := fun b => tok_dis_le h o.op.operands.toList ms hn b
  obtain ⟨d, hld, hlo⟩ := h.lv_get hc
  generalize hts : disT tm o.op.operands.toList ms = ts at *
  generalize hav : vals tm o.op.operands.toList ms = avs at *
  have hnew : ∀ cs g, newCells P o avs = some cs → (∀ g0 cs0, c = some (g0, cs0) → g = g0 + 1) → o.dst = some l →
      ∃ n v' w' lv', (execOp (cevals vs) o).run P w = .ok n w' ∧ NextVal n v' ∧
        Stp I μ HV lv w vs tm lh H I μ HV lv' w' (putV vs o.dst v') (putT ts o.dst (.lp l g 0)) (lh.set l (some (g, cs))) H := by
    intro cs g hcs hg hdst
    obtain ⟨e, cc, w', e1, e2, e3, e4⟩ := newCells_run hcs hv rfl
    obtain ⟨k1, k2⟩ := newCells_noOwn hcs cc.toList
    obtain ⟨p1, p2, p3⟩ := e2.none h.h.imm (fun _ => False)
    have hok : LocOk I μ w' (some (w.heap.size, cc.toList)) (some (g, cs)) := ⟨⟨e, by simpa using e2.new⟩, e3, e4, k2 I w', p3⟩
    have hlt : ∀ g0, Eng.tok μ HV H lv lh vs ts g0 ≤ 1 := fun g0 => by have := hd.one g0; unfold Eng.tok; exact this
    have h2 := hd.setLoc (d' := some (w.heap.size, cc.toList)) (c' := some (g, cs)) hld hc p1 p2 (fun _ h => h.elim) hok (fun v a hva => hva.newLoc hld hc hg) (fun g0 => by
      simp only [lc, k1]
      have := hlt g0
      by_cases hh : w.heap.size = g0
      · have := tok_lt hd (b := g0) (by omega); simp [hh]; omega
      · simp [hh]; omega)
    have h3 := h2.put o.dst (v := .pointer (some ⟨w.heap.size, 0, none⟩)) (r := .lp l g 0)
      ⟨g, cs, w.heap.size, cc.toList, by rw [List.getElem?_set, if_pos rfl, if_pos (List.getElem?_eq_some_iff.1 hc).1], by rw [List.getElem?_set, if_pos rfl, if_pos (List.getElem?_eq_some_iff.1 hld).1], Nat.le_refl _, _, rfl, fun _ => rfl⟩
      (fun _ _ _ _ _ _ _ h => by cases h) (fun b => by have := h2.one b; unfold Eng.tok; simp only [tc]; omega)
    refine ⟨_, _, w', _, e1, .inl rfl, h3, p1.mono fun _ h => h.elim, fun b hb => ?_, .refl μ⟩
    have t1 := tok_put_le (μ := μ) (HV := HV) (H := H) (lv := lv.set l (some (w.heap.size, cc.toList))) (lh := lh.set l (some (g, cs))) h2.tms.1 o.dst (.pointer (some ⟨w.heap.size, 0, none⟩)) (.lp l g 0) b
    have t2 := tok_setLoc (μ := μ) (HV := HV) (H := H) (vs := vs) (tm := ts) hd.ll (d' := some (w.heap.size, cc.toList)) (c' := some (g, cs)) hld hc b
    have t3 := htd b
    simp only [lc, k1, tc] at t1 t2
    by_cases hh : w.heap.size = b
    · right; omega
    · left; simp only [hh, if_false] at t2; omega
  unfold aloc at hr
  split at hr
  · -- alloc
    rename_i e hop
    split at hr
    · rename_i t cs hdst hcs
      have hlt : t = l := by simp only [acls, hop, hdst] at hcl; split at hcl; cases hcl; split at hcl; cases hcl; rfl; cases hcl
      subst hlt
      split at hr
      · simp only [Option.some.injEq, Prod.mk.injEq] at hr; obtain ⟨rfl, rfl⟩ := hr
        exact hnew cs 0 hcs (fun g0 cs0 e => by simp at e) hdst
      · rename_i g0 cs0
        simp only [Option.some.injEq, Prod.mk.injEq] at hr; obtain ⟨rfl, rfl⟩ := hr
        exact hnew cs (g0 + 1) hcs (fun g1 cs1 e => by cases e; rfl) hdst
    · cases hr
  · -- box
    rename_i e x hop
    split at hr
    · rename_i t cs hdst hcs
      have hlt : t = l := by simp only [acls, hop, hdst] at hcl; split at hcl; cases hcl; split at hcl; cases hcl; rfl; cases hcl
      subst hlt
      split at hr
      · simp only [Option.some.injEq, Prod.mk.injEq] at hr; obtain ⟨rfl, rfl⟩ := hr
        exact hnew cs 0 hcs (fun g0 cs0 e => by simp at e) hdst
      · rename_i g0 cs0
        simp only [Option.some.injEq, Prod.mk.injEq] at hr; obtain ⟨rfl, rfl⟩ := hr
        exact hnew cs (g0 + 1) hcs (fun g1 cs1 e => by cases e; rfl) hdst
    · cases hr
  · -- load
    rename_i t x l' g off hop
    obtain rfl : l' = l := by simp only [acls, hop] at hcl; cases hcl; rfl
    split at hr
    · rename_i g' cs
      split at hr
      · rename_i hgg
        subst hgg
        simp only [hop, Op.operands] at hv hs
        obtain ⟨g1, cs1, b1, ws1, q1, q2, q3, b', q4, q5⟩ := hv.uncons.1
        rw [hc] at q1; cases q1
        rw [hld] at q2; cases q2
        obtain rfl := q5 rfl
        obtain ⟨⟨e, k1⟩, k2, k3, k4, k5⟩ := hlo
        have hcells : CellsAt w b' 0 ws1 := CellsAt.block k1
        split at hr
        · -- moved out
          rename_i hmv
          split at hr
          · rename_i u hagg hu
            simp only [Option.some.injEq, Prod.mk.injEq] at hr; obtain ⟨rfl, rfl⟩ := hr
            obtain ⟨wv, hwv, hwr⟩ := k2.get' hu
            have hrun : (execOp (cevals vs) o).run P w = .ok (.value wv) w := by
              have := hcells off wv hwv
              simp only [Nat.zero_add] at this
              simp [execOp, hop, q4, Instr.loadAt, Instr.sureAddr, loadVar, isAgg_run hagg, this]
            have hsz := zsum_set (tc 0) k2.length (a' := wv) (b' := u.dis) hwv hu
            have hsz' : ∀ g0, tcs g0 ws1 (cs.set off u.dis) + tc g0 wv u = tcs g0 ws1 cs := fun g0 => by
              have := zsum_set (tc g0) k2.length (a' := wv) (b' := u.dis) hwv hu
              rw [set_self hwv, tc_dis] at this
              simpa using this
            have hok : LocOk I μ w (some (b', ws1)) (some (g, cs.set off u.dis)) := by
              refine ⟨⟨e, k1⟩, ?_, k3, ?_, k5⟩
              · have := k2.set off hwr.dis; rwa [set_self hwv] at this
              · have := AllSpare.set k2.length k4 off (SpareOk.dis I w wv u); rwa [set_self hwv] at this
            have h2 := hd.setLoc (A := fun _ => False) (d' := some (b', ws1)) (c' := some (g, cs.set off u.dis)) hld hc (.refl _ _ _) h.h.imm (fun _ h => h.elim) hok (fun v a hva => hva.setLoc hld hc) (fun g0 => by
              have := hd.one g0; have := hsz' g0; simp only [lc]; unfold Eng.tok; omega)
            have h3 := h2.put o.dst (v := wv) (r := u) (.of hwr) (k4 off wv u hwv hu) (fun b => by
              have t2 := tok_setLoc (μ := μ) (HV := HV) (H := H) (vs := vs) (tm := ts) hd.ll (d' := some (b', ws1)) (c' := some (g, cs.set off u.dis)) hld hc b
              have := hd.one b; have := hsz' b
              simp only [lc] at t2; unfold Eng.tok at *; omega)
            refine ⟨_, wv, w, _, hrun, .inl rfl, h3, .refl _ _ _, fun b hb => ?_, .refl μ⟩
            left
            have t1 := tok_put_le (μ := μ) (HV := HV) (H := H) (lv := lv.set l' (some (b', ws1))) (lh := lh.set l' (some (g, cs.set off u.dis))) h2.tms.1 o.dst wv u b
            have t2 := tok_setLoc (μ := μ) (HV := HV) (H := H) (vs := vs) (tm := ts) hd.ll (d' := some (b', ws1)) (c' := some (g, cs.set off u.dis)) hld hc b
            have t3 := htd b
            have := hsz' b
            simp only [lc] at t2; omega
          · cases hr
        · -- read
          simp only [Option.map_eq_some_iff] at hr
          obtain ⟨u, hu, hr⟩ := hr
          simp only [Prod.mk.injEq] at hr; obtain ⟨rfl, rfl⟩ := hr
          obtain ⟨wv, r1, r2, r3⟩ := readCells_sound (P := P) hcells k3 k2 hu
          simp only [Nat.zero_add] at r1
          have hrun : (execOp (cevals vs) o).run P w = .ok (.value wv) w := by
            simp [execOp, hop, q4, Instr.loadAt, Instr.sureAddr, r1]
          have h3 := hd.put o.dst (v := wv) (r := u) (.of r2) (r3.spare w wv) (fun b => by rw [r3.tc]; have := hd.one b; unfold Eng.tok; omega)
          refine ⟨_, wv, w, lv, hrun, .inl rfl, ?_, .refl _ _ _, fun b hb => ?_, .refl μ⟩
          · rw [set_self hc]; exact h3
          · left
            rw [set_self hc] at hb
            have t1 := tok_put_le (μ := μ) (HV := HV) (H := H) (lv := lv) (lh := lh) hd.tms.1 o.dst wv u b
            have t3 := htd b
            rw [r3.tc] at t1; omega
      · cases hr
    · cases hr
  · -- store
    rename_i t x y l' g off a hop
    obtain rfl : l' = l := by simp only [acls, hop] at hcl; cases hcl; rfl
    split at hr
    · rename_i g' cs new n hnew' hsz
      split at hr
      · rename_i hb
        obtain ⟨rfl, hl, hle⟩ := hb
        simp only [Option.some.injEq, Prod.mk.injEq] at hr; obtain ⟨rfl, rfl⟩ := hr
        have hv' := hv
        simp only [hop, Op.operands] at hv hs
        obtain ⟨g1, cs1, b1, ws1, q1, q2, q3, b', q4, q5⟩ := hv.uncons.1
        rw [hc] at q1; cases q1
        rw [hld] at q2; cases q2
        obtain rfl := q5 rfl
        have hva : Rep I μ (cevals vs y) a := hv.uncons.2.uncons.1.repOf (by rintro _ _ _ rfl; simp [AV.scells, AV.cells] at hnew')
        have hsa : SpareOk I w (cevals vs y) a := hs 1 _ _ rfl rfl
        have hlcb : 1 ≤ lc b' (some (b', ws1)) (some (g, cs)) := by simp [lc]
        have hone := h.one b'
        have hget := zsum_get (lc b') hld hc
        have htd' : ∀ b, Eng.tok μ HV H lv lh vs ts b + tc b (cevals vs y) a = Eng.tok μ HV H lv lh vs tm b := fun b => by
          have := htd b
          simp only [hop, Op.operands, List.map_cons, List.map_nil, zsum] at this
          have e : tc b (cevals vs x) (.lp l' g off) = 0 := by unfold tc; split <;> simp_all
          omega
        have hlt : lc b' (some (b', ws1)) (some (g, cs)) ≤ Eng.tok μ HV H lv lh vs ts b' := by unfold Eng.tok; omega
        have htm : ∀ b, Eng.tok μ HV H lv lh vs tm b ≤ 1 := fun b => h.one b
        have hz1 := htd' b'
        have hz2 := htm b'
        have hb0 : tcs b' ws1 cs = 0 := by simp only [lc] at hlt; simp at hlt; simp only [tcs] at *; omega
        obtain ⟨w', ws', s1, s2, s3, s4, s5⟩ := store_run (P := P) h.h.imm hlo hva hsa hnew' hsz hl hle (by omega) hb0
        have hrun : (execOp (cevals vs) o).run P w = .ok .skip w' := by
          simp [execOp, hop, q4, s1]
        have h2 := hd.setLoc (A := fun g => g = b') (d' := some (b', ws')) (c' := some (g, writeCells cs off new)) hld hc s2 s3
          (fun g0 hg0 => by subst hg0; simp only [lc] at *; simp at *; omega) s4 (fun v a hva => hva.setLoc hld hc)
          (fun g0 => by have := htd' g0; have := htm g0; have := s5 g0; simp only [lc]; omega)
        have h3 := h2.put o.dst (v := undef) (r := .val undef) (.of (.val _ .nil)) (fun _ _ _ _ _ _ _ h => by cases h) (fun b => by have := h2.one b; unfold Eng.tok; simp only [tc, undef]; omega)
        refine ⟨_, undef, w', _, hrun, .inr ⟨rfl, rfl⟩, h3, s2.mono fun g0 hg0 => by subst hg0; omega, fun b hb => ?_, .refl μ⟩
        left
        have t1 := tok_put_le (μ := μ) (HV := HV) (H := H) (lv := lv.set l' (some (b', ws'))) (lh := lh.set l' (some (g, writeCells cs off new))) h2.tms.1 o.dst undef (.val undef) b
        have t2 := tok_setLoc (μ := μ) (HV := HV) (H := H) (vs := vs) (tm := ts) hd.ll (d' := some (b', ws')) (c' := some (g, writeCells cs off new)) hld hc b
        have t3 := htd' b
        have := s5 b
        have t4 : tc b undef (.val undef) = 0 := rfl
        simp only [lc] at t2; omega
      · cases hr
    · cases hr
  · cases hr
end
end Go.Eng
end

section
/-
  THE ENGINE, part 9: steps in the heap.
-/
set_option linter.unusedVariables false
set_option linter.unusedSimpArgs false
namespace Go.Eng

section
variable {P : Program} {cfg : FuncId → FCfg} {I J : Mem} {μ ν : List Nat} {HV : List (List Value)} {lh : List (Option LCell)} {lv : List LV} {w w' : World} {vs : List Value} {tm : List AV} {H : Heap} {A : Nat → Prop}

theorem count_two {μ : List Nat} {b : Nat} : ∀ {i j : Nat}, μ[i]? = some b → μ[j]? = some b → i ≠ j → 2 ≤ μ.count b := by
  induction μ with
  | nil => intro i j h; simp at h
  | cons x μ ih =>
    intro i j hi hj hij
    cases i with
    | zero =>
      simp at hi; subst hi
      cases j with
      | zero => exact absurd rfl hij
      | succ j =>
        have : 0 < μ.count x := List.count_pos_iff.2 (List.mem_of_getElem? (by simpa using hj))
        rw [List.count_cons_self]; omega
    | succ i =>
      cases j with
      | zero =>
        simp at hj; subst hj
        have : 0 < μ.count x := List.count_pos_iff.2 (List.mem_of_getElem? (by simpa using hi))
        rw [List.count_cons_self]; omega
      | succ j =>
        have := ih (i := i) (j := j) (by simpa using hi) (by simpa using hj) (by omega)
        have := List.count_le_count_cons (a := b) (b := x) (l := μ)
        omega

theorem HInv.get (h : HInv I μ HV w H) {id : Nat} {cs : List AV} (hc : H[id]? = some cs) : ∃ b ws, μ[id]? = some b ∧ HV[id]? = some ws ∧ BlockOk I μ w b ws cs := by
  have h0 := (List.getElem?_eq_some_iff.1 hc).1
  have h1 : id < μ.length := by rw [h.l1]; exact h0
  have h2 : id < HV.length := by rw [h.l2]; exact h0
  exact ⟨_, _, List.getElem?_eq_getElem h1, List.getElem?_eq_getElem h2, h.ok id _ _ cs (List.getElem?_eq_getElem h1) (List.getElem?_eq_getElem h2) hc⟩

theorem tcss_set (hl : HV.length = H.length) {id : Nat} {ws ws' : List Value} {cs cs' : List AV} (hw : HV[id]? = some ws) (hc : H[id]? = some cs) (g : Nat) :
    tcss g (HV.set id ws') (H.set id cs') + tcs g ws cs = tcss g HV H + tcs g ws' cs' := zsum_set (tcs g) hl hw hc

/-- One block of the heap turns. -/
theorem FInv.setHeap (h : FInv I μ HV lv w vs tm lh H) {id b : Nat} {ws ws' : List Value} {cs cs' : List AV} (hm : μ[id]? = some b) (hw : HV[id]? = some ws) (hc : H[id]? = some cs)
    (he : Eff I w A I w') (hI : ImmOk I w') (hA : ∀ g, A g → g = b) (hok : BlockOk I μ w' b ws' cs')
    (hcnt : ∀ g, Eng.tok μ HV H lv lh vs tm g + tcs g ws' cs' ≤ 1 + tcs g ws cs) : FInv I μ (HV.set id ws') lv w' vs tm lh (H.set id cs') := by
  have hcb : 0 < μ.count b := List.count_pos_iff.2 (List.mem_of_getElem? hm)
  have hone := h.one b
  have hz : ∀ g, A g → g = b ∧ tcss g HV H = 0 ∧ zsum (lc g) lv lh = 0 ∧ tcs g vs tm = 0 := fun g hg => by
    have := hA g hg
    subst this
    exact ⟨rfl, by omega, by omega, by omega⟩
  refine ⟨⟨hI, by simp [h.h.l1], by simp [h.h.l2], ?_⟩, ⟨h.tms.1, fun i v a hv ha => h.tms.2 i v a hv ha⟩, h.sp.eff he fun g hg => (hz g hg).2.2.2, h.ll, loc_eff h.lo he (.refl μ) fun g hg => (hz g hg).2.2.1, fun g => ?_⟩
  · intro j b2 ws2 cs2 hj1 hj2 hj3
    by_cases e : id = j
    · subst e
      rw [hm] at hj1; cases hj1
      rw [List.getElem?_set, if_pos rfl, if_pos (List.getElem?_eq_some_iff.1 hw).1] at hj2
      rw [List.getElem?_set, if_pos rfl, if_pos (List.getElem?_eq_some_iff.1 hc).1] at hj3
      cases hj2; cases hj3; exact hok
    · rw [List.getElem?_set_ne e] at hj2 hj3
      refine (h.h.ok j b2 ws2 cs2 hj1 hj2 hj3).eff he (.refl μ) (fun hAb => ?_) (fun g hg => ?_)
      · obtain ⟨rfl, _⟩ := hz b2 hAb
        have := count_two hm hj1 e
        omega
      · have h1 := (hz g hg).2.1
        have h2 := zsum_get (tcs g) hj2 hj3
        simp only [tcss] at h1; omega
  · have h1 := hcnt g
    have h2 := tcss_set h.h.l2 (ws' := ws') (cs' := cs') hw hc g
    unfold Eng.tok at h1; omega

theorem tok_setHeap (hl : HV.length = H.length) {id : Nat} {ws ws' : List Value} {cs cs' : List AV} (hw : HV[id]? = some ws) (hc : H[id]? = some cs) (g : Nat) :
    Eng.tok μ (HV.set id ws') (H.set id cs') lv lh vs tm g + tcs g ws cs = Eng.tok μ HV H lv lh vs tm g + tcs g ws' cs' := by
  have h2 := tcss_set hl (ws' := ws') (cs' := cs') hw hc g
  unfold Eng.tok; omega

/-- A new block of the heap. -/
theorem FInv.newHeap (h : FInv I μ HV lv w vs tm lh H) {n : Nat} {ws : List Value} {cs : List AV} (he : Eff I w (fun _ => False) I w') (hI : ImmOk I w') (hn : n = w.heap.size) (hok : BlockOk I μ w' n ws cs) (hcs : ∀ g, tcs g ws cs = 0) :
    FInv I (μ ++ [n]) (HV ++ [ws]) lv w' vs tm lh (H ++ [cs]) := by
  have hmu := LeN.append μ [n]
  have h0 := tok_lt h (b := n) (by omega)
  refine ⟨⟨hI, by simp [h.h.l1], by simp [h.h.l2], ?_⟩, ⟨h.tms.1, fun i v a hv ha => (h.tms.2 i v a hv ha).mono (.refl I) hmu⟩, h.sp.eff he fun _ h => h.elim, h.ll, loc_eff h.lo he hmu fun _ h => h.elim, fun g => ?_⟩
  · intro j b2 ws2 cs2 hj1 hj2 hj3
    by_cases e : j < H.length
    · rw [List.getElem?_append_left (by rw [h.h.l1]; exact e)] at hj1
      rw [List.getElem?_append_left (by rw [h.h.l2]; exact e)] at hj2
      rw [List.getElem?_append_left e] at hj3
      exact (h.h.ok j b2 ws2 cs2 hj1 hj2 hj3).eff he hmu (fun h => h) (fun _ h => h.elim)
    · rw [List.getElem?_append_right (by rw [h.h.l1]; omega)] at hj1
      rw [List.getElem?_append_right (by rw [h.h.l2]; omega)] at hj2
      rw [List.getElem?_append_right (by omega)] at hj3
      have hj : j - H.length = 0 := by
        have := (List.getElem?_eq_some_iff.1 hj3).1
        simp at this; omega
      rw [h.h.l1, hj] at hj1
      rw [h.h.l2, hj] at hj2
      rw [hj] at hj3
      simp at hj1 hj2 hj3
      subst hj1 hj2 hj3
      obtain ⟨k1, k2, k3, k4, k5⟩ := hok
      exact ⟨k1, k2.mono (.refl I) hmu, k3, k4, k5⟩
  · have h1 := zsum_append (tcs g) (l := HV) (l' := [ws]) (m := H) (m' := [cs]) h.h.l2
    have h2 := h.one g
    simp only [zsum, hcs] at h1
    rw [List.count_append]
    simp only [tcss] at *
    by_cases e : n = g
    · subst e
      unfold Eng.tok at h0
      simp only [tcss] at h0
      simp; omega
    · simp [e]; omega

theorem glob_mem_step (h : FInv I μ HV lv w vs tm lh H) {f : FuncId} {o : Oper} {ms : List Bool} {call : FuncId → List AV → RM → Heap → Option CRes} (hn : (movedTmps o.op.operands.toList ms).Nodup) {g g' : G} {r : AV} (hg : g.H = H)
    (hop : (∃ e, o.op = .alloc e) ∨ (∃ e x, o.op = .box e x) ∨ (∃ t a, o.op = .load t a) ∨ (∃ t a x, o.op = .store t a x))
    (hr : aglob P cfg call f o (vals tm o.op.operands.toList ms) g = some (.val r g')) :
    ∃ n v' w' ν HV', (execOp (cevals vs) o).run P w = .ok n w' ∧ NextVal n v' ∧ g'.defers = g.defers ∧ g'.rm = g.rm ∧
      Stp I μ HV lv w vs tm lh H I ν HV' lv w' (putV vs o.dst v') (putT (disT tm o.op.operands.toList ms) o.dst r) lh g'.H := by
  subst hg
  have hv := vals_rep h.tms o.op.operands.toList ms
  have hs := vals_spare h.tms h.sp o.op.operands.toList ms
  have hd := h.dis o.op.operands.toList ms hn
  have htd := fun b => tok_dis_le h o.op.operands.toList ms hn b
  generalize hts : disT tm o.op.operands.toList ms = ts at *
  generalize hav : vals tm o.op.operands.toList ms = avs at *
  have hnew : ∀ cs, newCells P o avs = some cs → r = .ptr g.H.length 0 → g' = { g with H := g.H ++ [cs] } →
      ∃ n v' w' ν HV', (execOp (cevals vs) o).run P w = .ok n w' ∧ NextVal n v' ∧ g'.defers = g.defers ∧ g'.rm = g.rm ∧
      Stp I μ HV lv w vs tm lh g.H I ν HV' lv w' (putV vs o.dst v') (putT ts o.dst r) lh g'.H := by
    intro cs hcs hr' hg'
    subst hr' hg'
    obtain ⟨e, cc, w', e1, e2, e3, e4⟩ := newCells_run hcs hv rfl
    obtain ⟨k1, k2⟩ := newCells_noOwn hcs cc.toList
    obtain ⟨p1, p2, p3⟩ := e2.none h.h.imm (fun _ => False)
    have h2 := hd.newHeap p1 p2 rfl (ws := cc.toList) (cs := cs) ⟨⟨e, by simpa using e2.new⟩, e3, e4, k2 I w', p3⟩ k1
    have h3 := h2.put o.dst (v := .pointer (some ⟨w.heap.size, 0, none⟩)) (r := .ptr g.H.length 0) (.of (.ptr _ _ _ (by rw [← h.h.l1]; simp) .nil)) (fun _ _ _ _ _ _ _ h => by cases h) (fun b => by have := h2.one b; unfold Eng.tok; simp only [tc]; omega)
    refine ⟨_, _, w', _, _, e1, .inl rfl, rfl, rfl, h3, p1.mono fun _ h => h.elim, fun b hb => ?_, LeN.append _ _⟩
    have t1 := tok_put_le (μ := μ ++ [w.heap.size]) (HV := HV ++ [cc.toList]) (H := g.H ++ [cs]) (lv := lv) (lh := lh) h2.tms.1 o.dst (.pointer (some ⟨w.heap.size, 0, none⟩)) (.ptr g.H.length 0) b
    have t3 := htd b
    have t4 := zsum_append (tcs b) (l := HV) (l' := [cc.toList]) (m := g.H) (m' := [cs]) h.h.l2
    simp only [zsum, k1] at t4
    by_cases hh : w.heap.size = b
    · right; omega
    · left
      have : Eng.tok (μ ++ [w.heap.size]) (HV ++ [cc.toList]) (g.H ++ [cs]) lv lh vs ts b = Eng.tok μ HV g.H lv lh vs ts b := by
        unfold Eng.tok; rw [List.count_append]; simp only [tcss]; rw [t4]; simp [hh]
      simp only [tc] at t1 hb; omega
  rcases hop with ⟨e, hop⟩ | ⟨e, x, hop⟩ | ⟨t, x, hop⟩ | ⟨t, x, y, hop⟩
  · simp only [aglob, hop] at hr
    split at hr
    · rename_i cs hcs
      simp only [Option.some.injEq, GR.val.injEq] at hr
      exact hnew cs hcs hr.1.symm hr.2.symm
    · cases hr
  · simp only [aglob, hop] at hr
    split at hr
    · rename_i cs hcs
      simp only [Option.some.injEq, GR.val.injEq] at hr
      exact hnew cs hcs hr.1.symm hr.2.symm
    · cases hr
  · unfold aglob at hr
    simp only [hop] at hr
    split at hr
    all_goals (try (rename_i e; cases e; done))
    · rename_i t' x' id off e
      cases e
      split at hr
      · rename_i cs hcs
        simp only [hop, Op.operands] at hv hs
        obtain ⟨b, ws, q1, q2, q3⟩ := hd.h.get hcs
        have hptr : cevals vs x = .pointer (some ⟨b, off, none⟩) := by
          have := hv.uncons.1
          generalize cevals vs x = u at this
          cases this with
          | ptr _ _ b2 hb2 _ => rw [q1] at hb2; cases hb2; rfl
        obtain ⟨⟨e, k1⟩, k2, k3, k4, k5⟩ := q3
        have hcells : CellsAt w b 0 ws := CellsAt.block k1
        split at hr
        · split at hr
          · rename_i u hagg hu
            simp only [Option.some.injEq, GR.val.injEq] at hr; obtain ⟨rfl, rfl⟩ := hr
            obtain ⟨wv, hwv, hwr⟩ := k2.get' hu
            have hrun : (execOp (cevals vs) o).run P w = .ok (.value wv) w := by
              have := hcells off wv hwv
              simp only [Nat.zero_add] at this
              simp [execOp, hop, hptr, Instr.loadAt, Instr.sureAddr, loadVar, isAgg_run hagg, this]
            have hsz' : ∀ g0, tcs g0 ws (cs.set off u.dis) + tc g0 wv u = tcs g0 ws cs := fun g0 => by
              have := zsum_set (tc g0) k2.length (a' := wv) (b' := u.dis) hwv hu
              rw [set_self hwv, tc_dis] at this
              simpa using this
            have hok : BlockOk I μ w b ws (cs.set off u.dis) := by
              refine ⟨⟨e, k1⟩, ?_, k3, ?_, k5⟩
              · have := k2.set off hwr.dis; rwa [set_self hwv] at this
              · have := AllSpare.set k2.length k4 off (SpareOk.dis I w wv u); rwa [set_self hwv] at this
            have h2 := hd.setHeap (A := fun _ => False) (ws' := ws) (cs' := cs.set off u.dis) q1 q2 hcs (.refl _ _ _) h.h.imm (fun _ h => h.elim) hok (fun g0 => by
              have := hd.one g0; have := hsz' g0; unfold Eng.tok; omega)
            have t2' := fun b => tok_setHeap (μ := μ) (lv := lv) (lh := lh) (vs := vs) (tm := ts) h.h.l2 (ws' := ws) (cs' := cs.set off u.dis) q2 hcs b
            have h3 := h2.put o.dst (v := wv) (r := u) (.of hwr) (k4 off wv u hwv hu) (fun b => by
              have t2 := t2' b
              have := hd.one b; have := hsz' b
              unfold Eng.tok at *; omega)
            refine ⟨_, wv, w, μ, _, hrun, .inl rfl, rfl, rfl, h3, .refl _ _ _, fun b hb => ?_, .refl μ⟩
            left
            have t1 := tok_put_le (μ := μ) (HV := HV.set id ws) (H := g.H.set id (cs.set off u.dis)) (lv := lv) (lh := lh) h2.tms.1 o.dst wv u b
            have t2 := t2' b
            have t3 := htd b
            have := hsz' b
            simp only at hb; omega
          · cases hr
        · simp only [Option.map_eq_some_iff] at hr
          obtain ⟨u, hu, hr⟩ := hr
          simp only [GR.val.injEq] at hr; obtain ⟨rfl, rfl⟩ := hr
          obtain ⟨wv, r1, r2, r3⟩ := readCells_sound (P := P) hcells k3 k2 hu
          simp only [Nat.zero_add] at r1
          have hrun : (execOp (cevals vs) o).run P w = .ok (.value wv) w := by
            simp [execOp, hop, hptr, Instr.loadAt, Instr.sureAddr, r1]
          have h3 := hd.put o.dst (v := wv) (r := u) (.of r2) (r3.spare w wv) (fun b => by rw [r3.tc]; have := hd.one b; unfold Eng.tok; omega)
          refine ⟨_, wv, w, μ, HV, hrun, .inl rfl, rfl, rfl, h3, .refl _ _ _, fun b hb => ?_, .refl μ⟩
          left
          have t1 := tok_put_le (μ := μ) (HV := HV) (H := g.H) (lv := lv) (lh := lh) hd.tms.1 o.dst wv u b
          have t3 := htd b
          rw [r3.tc] at t1; omega
      · cases hr
    · cases hr
  · unfold aglob at hr
    simp only [hop] at hr
    split at hr
    all_goals (try (rename_i e; cases e; done))
    · rename_i t' x' y' id off a e
      cases e
      split at hr
      · rename_i cs new n hcs hnew' hsz
        split at hr
        · rename_i hb
          obtain ⟨hl, hle⟩ := hb
          simp only [Option.some.injEq, GR.val.injEq] at hr; obtain ⟨rfl, rfl⟩ := hr
          have hv' := hv
          simp only [hop, Op.operands] at hv hs
          obtain ⟨b, ws, q1, q2, q3⟩ := hd.h.get hcs
          have hptr : cevals vs x = .pointer (some ⟨b, off, none⟩) := by
            have := hv.uncons.1
            generalize cevals vs x = u at this
            cases this with
            | ptr _ _ b2 hb2 _ => rw [q1] at hb2; cases hb2; rfl
          have hva : Rep I μ (cevals vs y) a := hv.uncons.2.uncons.1.repOf (by rintro _ _ _ rfl; simp [AV.scells, AV.cells] at hnew')
          have hsa : SpareOk I w (cevals vs y) a := hs 1 _ _ rfl rfl
          have hcb : 0 < μ.count b := List.count_pos_iff.2 (List.mem_of_getElem? q1)
          have htd' : ∀ b, Eng.tok μ HV g.H lv lh vs ts b + tc b (cevals vs y) a = Eng.tok μ HV g.H lv lh vs tm b := fun b => by
            have := htd b
            simp only [hop, Op.operands, List.map_cons, List.map_nil, zsum] at this
            have e : tc b (cevals vs x) (.ptr id off) = 0 := by unfold tc; split <;> simp_all
            omega
          have htm : ∀ b, Eng.tok μ HV g.H lv lh vs tm b ≤ 1 := fun b => h.one b
          have hz1 := htd' b
          have hz2 := htm b
          have hget := zsum_get (tcs b) q2 hcs
          have htb : μ.count b + tcss b HV g.H ≤ Eng.tok μ HV g.H lv lh vs ts b := by unfold Eng.tok; omega
          have hb0 : tcs b ws cs = 0 := by simp only [tcss, tcs] at *; omega
          obtain ⟨w', ws', s1, s2, s3, s4, s5⟩ := store_run (P := P) h.h.imm q3 hva hsa hnew' hsz hl hle (by omega) hb0
          have hrun : (execOp (cevals vs) o).run P w = .ok .skip w' := by
            simp [execOp, hop, hptr, s1]
          have h2 := hd.setHeap (A := fun g => g = b) (ws' := ws') (cs' := writeCells cs off new) q1 q2 hcs s2 s3 (fun g hg => hg) s4
            (fun g0 => by have := htd' g0; have := htm g0; have := s5 g0; omega)
          have h3 := h2.put o.dst (v := undef) (r := .val undef) (.of (.val _ .nil)) (fun _ _ _ _ _ _ _ h => by cases h) (fun b => by have := h2.one b; unfold Eng.tok; simp only [tc, undef]; omega)
          refine ⟨_, undef, w', μ, _, hrun, .inr ⟨rfl, rfl⟩, rfl, rfl, h3, s2.mono fun g0 hg0 => by subst hg0; omega, fun b hb => ?_, .refl μ⟩
          left
          have t1 := tok_put_le (μ := μ) (HV := HV.set id ws') (H := g.H.set id (writeCells cs off new)) (lv := lv) (lh := lh) h2.tms.1 o.dst undef (.val undef) b
          have t2 := tok_setHeap (μ := μ) (lv := lv) (lh := lh) (vs := vs) (tm := ts) h.h.l2 (ws' := ws') (cs' := writeCells cs off new) q2 hcs b
          have t3 := htd' b
          have := s5 b
          have t4 : tc b undef (.val undef) = 0 := rfl
          simp only at hb; omega
        · cases hr
      · cases hr
    · cases hr
end
end Go.Eng
end

section
/-
  THE ENGINE, part 10: what a call is to do; operations that call, defer, panic and recover.
-/
set_option linter.unusedVariables false
set_option linter.unusedSimpArgs false
namespace Go.Eng

/-- A panic's chain: its head is not recovered; nothing in it is a Goexit. -/
def ChainRel (I : Mem) (μ : List Nat) (chain : List PanicEntry) (v : AV) : Prop :=
  ∃ u older, chain = { v := u, recovered := false, goexit := false } :: older ∧ (∀ e ∈ older, e.goexit = false) ∧ Rep I μ u v

/-- The mode of the frame that called this one as a deferred call. -/
def ModeRel (I : Mem) (μ : List Nat) : RM → FrameMode → Prop
  | .none, _ => False
  | .returning, u => u = .returning
  | .panicking v r, u => ∃ x older, u = .panicking ({ v := x, recovered := r, goexit := false } :: older) ∧ (∀ e ∈ older, e.goexit = false) ∧ Rep I μ x v

def OutRel (J : Mem) (ν : List Nat) (w' : World) : Out → Ending → Prop
  | .ret v, e => ∃ v', e = .returned v' ∧ Rep J ν v' v ∧ SpareOk J w' v' v
  | .panic v, e => ∃ chain, e = .panicked chain ∧ ChainRel J ν chain v

/-- The blocks that a call's result owns. -/
def outTok (b : Nat) : Out → Ending → Nat
  | .ret v, .returned v' => tc b v' v
  | _, _ => 0

def argTok (μ : List Nat) (HV : List (List Value)) (H : Heap) (cargs : List Value) (args : List AV) (b : Nat) : Nat := μ.count b + tcss b HV H + tcs b cargs args

structure CPost (I : Mem) (μ : List Nat) (HV : List (List Value)) (w : World) (H : Heap) (cargs : List Value) (args : List AV) (out : Out) (H' : Heap) (J : Mem) (ν : List Nat) (HV' : List (List Value)) (e : Ending) (w' : World) : Prop where
  h : HInv J ν HV' w' H'
  eff : Eff I w (fun b => 0 < argTok μ HV H cargs args b) J w'
  mu : LeN μ ν
  outr : OutRel J ν w' out e
  one : ∀ b, ν.count b + tcss b HV' H' + outTok b out e ≤ 1
  tok : ∀ b, 0 < ν.count b + tcss b HV' H' + outTok b out e → 0 < argTok μ HV H cargs args b ∨ w.heap.size ≤ b

/-- What is asked of the interpreter's calls. -/
def CallSound (P : Program) (I0 : Mem) (call : FuncId → List AV → RM → Heap → Option CRes) : Prop :=
  ∀ f args rm H res, call f args rm H = some res → ∀ I μ HV w cargs, LeM I0 I → HInv I μ HV w H → RepL I μ cargs args → AllSpare I w cargs args → (∀ b, argTok μ HV H cargs args b ≤ 1) →
    (∃ fn c, P.funcs[f]? = some fn ∧ fn.body = some c ∧ (fn.name == "runtime.NumGoroutine") = false) ∧
    match rm with
    | .none => Calls P f cargs.toArray w fun e w' => ∃ J ν HV', CPost I μ HV w H cargs args res.out res.H J ν HV' e w'
    | rm => ∀ u, ModeRel I μ rm u → CallsD P f cargs.toArray u w fun e u' w' => ∃ J ν HV', CPost I μ HV w H cargs args res.out res.H J ν HV' e w' ∧ ModeRel J ν res.rm u'

theorem CallSound.mono {P : Program} {I0 I1 : Mem} {call : FuncId → List AV → RM → Heap → Option CRes} (h : CallSound P I0 call) (hle : LeM I0 I1) : CallSound P I1 call :=
  fun f args rm H res hc I μ HV w cargs hI => h f args rm H res hc I μ HV w cargs (hle.trans hI)

section
variable {P : Program} {cfg : FuncId → FCfg} {call : FuncId → List AV → RM → Heap → Option CRes} {I J : Mem} {μ ν : List Nat} {HV : List (List Value)} {lh : List (Option LCell)} {lv : List LV} {w w' : World}
  {vs : List Value} {tm : List AV} {H : Heap} {A : Nat → Prop}

theorem eval_cevals (a : Act) (x : Operand) : a.eval x = cevals a.tmps.toList x := by
  cases x with
  | tmp t => simp [Act.eval, cevals, List.getD_eq_getElem?_getD, Array.getD_eq_getD_getElem?]
  | _ => rfl

theorem eval_eq (a : Act) : a.eval = cevals a.tmps.toList := funext (eval_cevals a)

section
variable {b : Frame} {a : Act} {k : List Item} {cs : List Frame} {ops : Array Oper} {i : Nat} {rest : List Nat} {o : Oper}

theorem fin_at (ho : ops[i]? = some o) (v : Value) : (b.at a (.inRegion ops (i :: rest) :: k)).finish v = b.at (a.put o.dst v) (.inRegion ops rest :: k) := by
  rw [Frame.finish_at, ho]; rfl

theorem step_next (ho : ops[i]? = some o) (hw : Region.wanted o (yielded ops a.tmps) = true) {n : Next} {v : Value} (hr : (execOp a.eval o).run P w = .ok n w') (hn : NextVal n v) :
    step P (lone (b.at a (.inRegion ops (i :: rest) :: k)) cs w) = .next (lone (b.at (a.put o.dst v) (.inRegion ops rest :: k)) cs w') := by
  have hg := stepG_op (P := P) (b := b) (k := k) (cs := cs) (w := w) (rest := rest) ho hw
  refine step_lone_go ?_
  rw [hg, ← fin_at ho]
  rcases hn with rfl | ⟨rfl, rfl⟩ <;> simp [stepG.apply, hr]

theorem step_deferOp (ho : ops[i]? = some o) (hw : Region.wanted o (yielded ops a.tmps) = true) {d : Deferred} (hr : (execOp a.eval o).run P w = .ok (.defer d) w') :
    step P (lone (b.at a (.inRegion ops (i :: rest) :: k)) cs w) = .next (lone (b.at ({ a with defers := d :: a.defers }.put o.dst undef) (.inRegion ops rest :: k)) cs w') := by
  have hg := stepG_op (P := P) (b := b) (k := k) (cs := cs) (w := w) (rest := rest) ho hw
  refine step_lone_go ?_
  have : ({ b.at a (.inRegion ops (i :: rest) :: k) with defers := d :: a.defers } : Frame).finish undef = b.at ({ a with defers := d :: a.defers }.put o.dst undef) (.inRegion ops rest :: k) := by
    have := Frame.finish_at b { a with defers := d :: a.defers } ops i rest k undef
    rw [ho] at this; exact this
  rw [hg]; simp only [stepG.apply, Sem.runT_eq, hr, GStep.bare_after]
  exact congrArg (fun fr => GStep.go { frame := fr, callers := cs, status := .running, dying := none } w') this

theorem step_panicOp (ho : ops[i]? = some o) (hw : Region.wanted o (yielded ops a.tmps) = true) {v : Value} (hr : (execOp a.eval o).run P w = .halt (.panic v) w') :
    step P (lone (b.at a (.inRegion ops (i :: rest) :: k)) cs w) = .next (lone { b.at a (.inRegion ops (i :: rest) :: k) with mode := .panicking [{ v, recovered := false }] } cs w') := by
  have hg := stepG_op (P := P) (b := b) (k := k) (cs := cs) (w := w) (rest := rest) ho hw
  refine step_lone_go ?_
  rw [hg, ← Frame.raise_at]; simp [stepG.apply, hr]

theorem step_enter (ho : ops[i]? = some o) (hw : Region.wanted o (yielded ops a.tmps) = true) {f : FuncId} {args : Array Value} (hr : (execOp a.eval o).run P w = .ok (.enter f args) w') :
    step P (lone (b.at a (.inRegion ops (i :: rest) :: k)) cs w) = .next (lone (Frame.enter P f args .normal) (b.at a (.inRegion ops (i :: rest) :: k) :: cs) w') := by
  have hg := stepG_op (P := P) (b := b) (k := k) (cs := cs) (w := w) (rest := rest) ho hw
  exact step_lone_go (by rw [hg]; simp [stepG.apply, hr, Frame.at])

theorem step_recoverOp (ho : ops[i]? = some o) (hw : Region.wanted o (yielded ops a.tmps) = true) (hb : b.kind = .deferred) (hr : (execOp a.eval o).run P w = .ok .recover w') :
    step P (lone (b.at a (.inRegion ops (i :: rest) :: k)) cs w) = .next (match recoverD cs with
      | some (v, cs') => lone (b.at (a.put o.dst v) (.inRegion ops rest :: k)) cs' w'
      | none => lone (b.at (a.put o.dst .nilIface) (.inRegion ops rest :: k)) cs w') := by
  have hg := stepG_op (P := P) (b := b) (k := k) (cs := cs) (w := w) (rest := rest) ho hw
  have hk : (b.at a (.inRegion ops (i :: rest) :: k)).kind = .deferred := hb
  have htr := tryRecover_deferred hk cs
  split
  · rename_i v cs' hrec
    refine step_lone_go ?_
    rw [hg, ← fin_at ho]
    simp only [Frame.at] at htr ⊢
    simp [stepG.apply, hr, htr, hrec]
  · rename_i hrec
    refine step_lone_go ?_
    rw [hg, ← fin_at ho]
    simp only [Frame.at] at htr ⊢
    simp [stepG.apply, hr, htr, hrec]

/-- A call, entered and left. -/
theorem call_arrives (ho : ops[i]? = some o) (hw : Region.wanted o (yielded ops a.tmps) = true) {f : FuncId} {args : Array Value} (hr : (execOp a.eval o).run P w = .ok (.enter f args) w) {R : Ending → World → Prop}
    (hc : Calls P f args w R) (hno : ∀ w', ¬ R .outgrown w') : ∃ e w', R e w' ∧ match e with
      | .returned v => Steps P (lone (b.at a (.inRegion ops (i :: rest) :: k)) cs w) (lone (b.at (a.put o.dst v) (.inRegion ops rest :: k)) cs w')
      | .panicked chain => Arrives P (lone (b.at a (.inRegion ops (i :: rest) :: k)) cs w) b k cs (.panic chain) a w'
      | .outgrown => False := by
  obtain ⟨e, w'', fr, hR, hsteps, _, hleave⟩ := hc (b.at a (.inRegion ops (i :: rest) :: k) :: cs)
  have henter := step_enter (P := P) (b := b) (k := k) (cs := cs) (rest := rest) ho hw hr
  cases e with
  | returned v =>
    refine ⟨_, w'', hR, ?_⟩
    refine .head henter (Steps.trans hsteps (.one ?_))
    rw [← fin_at ho]; exact step_leave_returned hleave
  | panicked chain =>
    refine ⟨_, w'', hR, .inRegion ops (i :: rest) :: k, .head henter (Steps.trans hsteps (.one ?_))⟩
    rw [← Frame.raise_at]; exact step_leave_panicked hleave
  | outgrown => exact absurd hR (hno _)
end

/-- A static or a dynamic call's operation. -/
theorem call_run {o : Oper} {c : Call} {x : Operand} (hop : o.op = .call c) (hc : c.callee = .value x) {ρ : Operand → Value} {g : FuncId} {first captured : Array Value} (hx : ρ x = .func (.func g) first captured)
    {fn : Func} {body : Code} (hf : P.funcs[g]? = some fn) (hb : fn.body = some body) (hng : (fn.name == "runtime.NumGoroutine") = false) (w : World) :
    (execOp ρ o).run P w = .ok (.enter g (first ++ c.args.map ρ ++ captured)) w := by
  have hng' : ¬ fn.name = "runtime.NumGoroutine" := by simpa using hng
  simp [execOp, hop, resolve, hc, hx, Deferred.ofValue, invoke, callFunc, hf, hb, hng']

theorem RepL.argSpare {cargs : List Value} {args : List AV} (h : ∀ a ∈ args, NoOwn a) : AllSpare I w cargs args ∧ ∀ b, tcs b cargs args = 0 := by
  refine ⟨fun i v a hv ha => (h a (List.mem_of_getElem? ha)).spare w v, fun b => ?_⟩
  rcases Nat.eq_zero_or_pos (tcs b cargs args) with h0 | h0
  · exact h0
  · obtain ⟨i, v, a, hv, ha, hp⟩ := tcs_pos h0
    rw [(h a (List.mem_of_getElem? ha)).tc] at hp; omega

theorem noOwn_map_dis (l : List AV) : ∀ a ∈ l.map AV.dis, NoOwn a := by
  intro a ha; simp at ha; obtain ⟨x, _, rfl⟩ := ha; exact .dis x

/-- The frame behind a call that returned. -/
theorem call_frame (h : FInv I μ HV lv w vs tm lh H) {xs : List Operand} {ms : List Bool} (hn : (movedTmps xs ms).Nodup) {cargs : List Value} {args : List AV} {out : Out} {H' : Heap} {J : Mem} {ν : List Nat} {HV' : List (List Value)} {e : Ending} {w' : World}
    (hargs : ∀ b, tcs b cargs args ≤ tcs b (xs.map (cevals vs)) (vals tm xs ms)) (hp : CPost I μ HV w H cargs args out H' J ν HV' e w') :
    FInv J ν HV' lv w' vs (disT tm xs ms) lh H' ∧ Eff I w (fun b => 0 < tok μ HV H lv lh vs tm b) J w' ∧ LeN μ ν ∧
      (∀ b, tok ν HV' H' lv lh vs (disT tm xs ms) b + outTok b out e ≤ 1) ∧ (∀ b, 0 < tok ν HV' H' lv lh vs (disT tm xs ms) b + outTok b out e → 0 < tok μ HV H lv lh vs tm b ∨ w.heap.size ≤ b) := by
  have hd := h.dis xs ms hn
  have htd := fun b => tok_dis_le h xs ms hn b
  have htm : ∀ b, tok μ HV H lv lh vs tm b ≤ 1 := fun b => h.one b
  have hz : ∀ b, 0 < argTok μ HV H cargs args b → zsum (lc b) lv lh = 0 ∧ tcs b vs (disT tm xs ms) = 0 := fun b hb => by
    have h1 := htd b
    have h2 := htm b
    have h3 := hargs b
    unfold tok at h1 h2; unfold argTok at hb; omega
  have hone : ∀ b, tok ν HV' H' lv lh vs (disT tm xs ms) b + outTok b out e ≤ 1 := fun b => by
    have h1 := hp.one b
    by_cases h0 : ν.count b + tcss b HV' H' + outTok b out e = 0
    · have h2 := htd b; have h3 := htm b; unfold tok at *; omega
    · have h2 : zsum (lc b) lv lh = 0 ∧ tcs b vs (disT tm xs ms) = 0 := by
        rcases hp.tok b (by omega) with h3 | h3
        · exact hz b h3
        · have := tok_lt hd (b := b) (by omega); unfold tok at this; omega
      unfold tok; omega
  refine ⟨⟨hp.h, ⟨hd.tms.1, fun i v a hv ha => (hd.tms.2 i v a hv ha).mono hp.eff.le hp.mu⟩, hd.sp.eff hp.eff fun b hb => (hz b hb).2, hd.ll, loc_eff hd.lo hp.eff hp.mu fun b hb => (hz b hb).1, fun b => ?_⟩,
    hp.eff.mono fun b hb => ?_, hp.mu, hone, fun b hb => ?_⟩
  · have := hone b; unfold tok at this; omega
  · have h1 := htd b; have h3 := hargs b; unfold argTok at hb; unfold tok at *; omega
  · by_cases h0 : ν.count b + tcss b HV' H' + outTok b out e = 0
    · left; have h1 := htd b; unfold tok at *; omega
    · rcases hp.tok b (by omega) with h3 | h3
      · left; have h1 := htd b; have h4 := hargs b; unfold argTok at h3; unfold tok at *; omega
      · exact .inr h3
end
end Go.Eng
end

section
/-
  THE ENGINE, part 11: one operation in a region; a region in an order.
-/
set_option linter.unusedVariables false
set_option linter.unusedSimpArgs false
namespace Go.Eng

def DRel1 (I : Mem) (μ : List Nat) (d : Deferred) (ad : ADef) : Prop :=
  ∃ cap, d.target = .fn (.func ad.f) cap ∧ RepL I μ (d.args.toList ++ cap.toList) ad.args ∧ ∀ a ∈ ad.args, NoOwn a

def DRel (I : Mem) (μ : List Nat) : List Deferred → List ADef → Prop
  | [], [] => True
  | d :: ds, a :: as => DRel1 I μ d a ∧ DRel I μ ds as
  | _, _ => False

def RM.isNone : RM → Bool
  | .none => true
  | _ => false

def RmOk (I : Mem) (μ : List Nat) (cs0 cs : List Frame) : RM → Prop
  | .none => cs = cs0
  | rm => ∃ c rest u, cs0 = c :: rest ∧ cs = { c with mode := u } :: rest ∧ ModeRel I μ rm u

/-- What a call is measured against: the memory and the world where it began, what it may write, its callers. -/
structure Base where
  I : Mem
  μ : List Nat
  w : World
  A : Nat → Prop
  cs : List Frame
  dk : Bool

structure Good (B : Base) (s : St) (a : Act) (cs : List Frame) (w : World) (I : Mem) (μ : List Nat) (HV : List (List Value)) (lv : List LV) : Prop where
  inv : FInv I μ HV lv w a.tmps.toList s.tmps s.lh s.g.H
  df : DRel I μ a.defers s.g.defers
  rm : RmOk I μ B.cs cs s.g.rm
  dk : s.g.rm.isNone = !B.dk
  eff : Eff B.I B.w B.A I w
  tk : ∀ b, 0 < tok μ HV s.g.H lv s.lh a.tmps.toList s.tmps b → B.A b ∨ B.w.heap.size ≤ b
  mu : LeN B.μ μ
  bs : s.g.base = B.μ.length

section
variable {P : Program} {cfg : FuncId → FCfg} {call : FuncId → List AV → RM → Heap → Option CRes} {B : Base} {I J : Mem} {μ ν : List Nat}

theorem DRel1.mono (hI : LeM I J) (hμ : LeN μ ν) {d : Deferred} {a : ADef} (h : DRel1 I μ d a) : DRel1 J ν d a := by
  obtain ⟨cap, h1, h2, h3⟩ := h
  exact ⟨cap, h1, h2.mono hI hμ, h3⟩

theorem DRel.mono (hI : LeM I J) (hμ : LeN μ ν) : ∀ {ds : List Deferred} {as : List ADef}, DRel I μ ds as → DRel J ν ds as
  | [], [], h => h
  | d :: ds, a :: as, h => ⟨h.1.mono hI hμ, DRel.mono hI hμ h.2⟩
  | [], _ :: _, h => h.elim
  | _ :: _, [], h => h.elim

theorem ModeRel.mono (hI : LeM I J) (hμ : LeN μ ν) {rm : RM} {u : FrameMode} (h : ModeRel I μ rm u) : ModeRel J ν rm u := by
  cases rm with
  | none => exact h
  | returning => exact h
  | panicking v r => obtain ⟨x, o, h1, h2, h3⟩ := h; exact ⟨x, o, h1, h2, h3.mono hI hμ⟩

theorem RmOk.mono (hI : LeM I J) (hμ : LeN μ ν) {cs0 cs : List Frame} {rm : RM} (h : RmOk I μ cs0 cs rm) : RmOk J ν cs0 cs rm := by
  cases rm with
  | none => exact h
  | returning => obtain ⟨c, r, u, h1, h2, h3⟩ := h; exact ⟨c, r, u, h1, h2, h3.mono hI hμ⟩
  | panicking v r => obtain ⟨c, r, u, h1, h2, h3⟩ := h; exact ⟨c, r, u, h1, h2, h3.mono hI hμ⟩

theorem arecover_base {m g' : G} {v : AV} (h : arecover m = some (.val v g')) : g'.base = m.base := by
  unfold arecover at h
  split at h
  · cases h
  all_goals (simp only [Option.some.injEq, GR.val.injEq] at h; rw [← h.2])

theorem aglob_base {f : FuncId} {o : Oper} {vs : List AV} {m g' : G} {v : AV} (h : aglob P cfg call f o vs m = some (.val v g')) : g'.base = m.base := by
  unfold aglob at h
  split at h
  · split at h
    · simp only [Option.some.injEq, GR.val.injEq] at h; rw [← h.2]
    · cases h
  · split at h
    · simp only [Option.some.injEq, GR.val.injEq] at h; rw [← h.2]
    · cases h
  · split at h
    · split at h
      · split at h
        · simp only [Option.some.injEq, GR.val.injEq] at h; rw [← h.2]
        · cases h
      · simp only [Option.map_eq_some_iff, GR.val.injEq] at h
        obtain ⟨_, _, _, h⟩ := h
        rw [← h]
    · cases h
  · split at h
    · split at h
      · simp only [Option.some.injEq, GR.val.injEq] at h; rw [← h.2]
      · cases h
    · cases h
  · split at h
    · split at h
      · exact arecover_base h
      · cases h
    · split at h
      · unfold acallv at h
        split at h
        · cases h
        · split at h
          · simp only [Option.some.injEq, GR.val.injEq] at h; rw [← h.2]
          · simp at h
          · cases h
      · cases h
    · cases h
  · split at h
    · split at h
      · split at h
        · cases h
        · simp only [Option.some.injEq, GR.val.injEq] at h; rw [← h.2]
      · cases h
    · cases h
  · simp at h
  · cases h

/-- A step inside the frame keeps all that is asked. -/
theorem Good.step {s : St} {a : Act} {cs : List Frame} {w : World} {HV : List (List Value)} {lv : List LV} (h : Good B s a cs w I μ HV lv) {HV' : List (List Value)} {lv' : List LV} {w' : World} {a' : Act} {s' : St}
    (hs : Stp I μ HV lv w a.tmps.toList s.tmps s.lh s.g.H J ν HV' lv' w' a'.tmps.toList s'.tmps s'.lh s'.g.H) (hd : a'.defers = a.defers) (hd' : s'.g.defers = s.g.defers) (hr : s'.g.rm = s.g.rm) (hbs : s'.g.base = s.g.base := by rfl) :
    Good B s' a' cs w' J ν HV' lv' := by
  refine ⟨hs.inv, ?_, ?_, by rw [hr]; exact h.dk, h.eff.trans hs.eff h.tk, fun b hb => ?_, h.mu.trans hs.mu, by rw [hbs]; exact h.bs⟩
  · rw [hd, hd']; exact h.df.mono hs.eff.le hs.mu
  · rw [hr]; exact h.rm.mono hs.eff.le hs.mu
  · rcases hs.tok b hb with h1 | h1
    · exact h.tk b h1
    · exact .inr (Nat.le_trans h.eff.size h1)

theorem put_tmps (a : Act) (d : Option Tmp) (v : Value) : (a.put d v).tmps.toList = putV a.tmps.toList d v := by
  cases d <;> simp [Act.put, putV]

theorem put_defers (a : Act) (d : Option Tmp) (v : Value) : (a.put d v).defers = a.defers := by
  cases d <;> rfl

theorem wanted_sound {s : St} {a : Act} {cs : List Frame} {w : World} {HV : List (List Value)} {lv : List LV} (h : Good B s a cs w I μ HV lv) {ops : Array Oper} {o : Oper} {r : Bool} (hw : wantedA ops o s.tmps = some r) :
    Region.wanted o (yielded ops a.tmps) = r := by
  unfold wantedA at hw
  unfold Region.wanted
  split at hw
  · rename_i hg; rw [hg]; simp at hw; simpa using hw
  · rename_i j want hg
    rw [hg]
    simp only
    split at hw
    · rename_i hd
      simp at hw; subst hw
      simp [yielded, hd]
    · rename_i t hd
      have hlen := h.inv.tms.1
      cases ht : s.tmps[t]? with
      | none =>
        simp [ht] at hw; subst hw
        have : a.tmps[t]? = none := by
          rw [← Array.getElem?_toList]
          exact List.getElem?_eq_none (by rw [hlen]; exact List.getElem?_eq_none_iff.1 ht)
        simp [yielded, hd, this]
      | some x =>
        have htl : t < a.tmps.toList.length := by rw [hlen]; exact (List.getElem?_eq_some_iff.1 ht).1
        have hv := h.inv.tms.2 t _ x (List.getElem?_eq_getElem htl) ht
        have he : a.tmps[t]? = some (a.tmps.toList[t]'htl) := by rw [← Array.getElem?_toList]; exact List.getElem?_eq_getElem htl
        simp only [ht] at hw
        split at hw
        · rename_i e; cases e
        · rename_i b' e
          cases e
          simp only [Option.some.injEq] at hw; subst hw
          generalize a.tmps.toList[t]'htl = u at hv he
          cases hv
          simp [yielded, hd, he]
        · rename_i v hnb e
          cases e
          simp only [Option.some.injEq] at hw; subst hw
          generalize a.tmps.toList[t]'htl = u at hv he
          cases hv
          have : yielded ops a.tmps j = none := by
            simp only [yielded, hd, Option.bind_some, he]
            split
            · rename_i b' e; cases e; exact absurd rfl (hnb b')
            · rfl
          simp [this]
        · cases hw

theorem recover_rel {cs0 cs : List Frame} {rm : RM} (h : RmOk I μ cs0 cs rm) {g g' : G} {v : AV} (hg : g.rm = rm) (hr : arecover g = some (.val v g')) :
    ∃ v' cs', (match recoverD cs with | some (x, c) => (x, c) | none => (.nilIface, cs)) = (v', cs') ∧ Rep I μ v' v ∧ RmOk I μ cs0 cs' g'.rm ∧ g'.H = g.H ∧ g'.defers = g.defers ∧ g'.rm.isNone = rm.isNone ∧ NoOwn v := by
  unfold arecover at hr
  rw [hg] at hr
  cases rm with
  | none => simp at hr
  | returning =>
    simp only [Option.some.injEq, GR.val.injEq] at hr
    obtain ⟨rfl, rfl⟩ := hr
    obtain ⟨c, rest, u, h1, h2, h3⟩ := h
    have hu : u = .returning := h3
    subst hu
    refine ⟨.nilIface, cs, by rw [h2]; rfl, .val _ .nil, ?_, rfl, rfl, by rw [hg], fun _ _ h => by cases h⟩
    rw [hg]; exact ⟨c, rest, .returning, h1, h2, rfl⟩
  | panicking x r =>
    obtain ⟨c, rest, u, h1, h2, y, older, h3, h4, h5⟩ := h
    subst h3
    cases r with
    | false =>
      simp only [Option.some.injEq, GR.val.injEq] at hr
      obtain ⟨rfl, rfl⟩ := hr
      refine ⟨y, _, by rw [h2]; rfl, h5.dis, ⟨c, rest, _, h1, rfl, y, older, rfl, h4, h5⟩, rfl, rfl, rfl, .dis _⟩
    | true =>
      simp only [Option.some.injEq, GR.val.injEq] at hr
      obtain ⟨rfl, rfl⟩ := hr
      refine ⟨.nilIface, cs, by rw [h2]; rfl, .val _ .nil, ?_, rfl, rfl, by rw [hg], fun _ _ h => by cases h⟩
      rw [hg]; exact ⟨c, rest, _, h1, h2, y, older, rfl, h4, h5⟩

/-- Where an operation that goes on leads. -/
def Goes (P : Program) (B : Base) (s' : St) (m : Machine) (b : Frame) (ops : Array Oper) (rest : List Nat) (k : List Item) : Prop :=
  ∃ a' cs' w' I' μ' HV' lv', Good B s' a' cs' w' I' μ' HV' lv' ∧ Steps P m (lone (b.at a' (.inRegion ops rest :: k)) cs' w')

def Panics (P : Program) (B : Base) (v : AV) (s' : St) (m : Machine) (b : Frame) (k : List Item) : Prop :=
  ∃ a' cs' w' I' μ' HV' lv' chain, Good B s' a' cs' w' I' μ' HV' lv' ∧ ChainRel I' μ' chain v ∧ Arrives P m b k cs' (.panic chain) a' w'

def SRel (P : Program) (B : Base) (r : SR) (m : Machine) (b : Frame) (ops : Array Oper) (rest : List Nat) (k : List Item) : Prop :=
  match r with
  | .next s' => Goes P B s' m b ops rest k
  | .panic v s' => Panics P B v s' m b k

theorem repL_of_vals {xs : List Operand} {vs tm : List AV} {cv : List Value} {lh : List (Option LCell)} {lv : List LV} (h : TRepL I μ lh lv cv vs) (ha : vs.any AV.isLp = false) : RepL I μ cv vs := h.repL ha

/-- What a call's operands give its callee. -/
theorem call_args {x : Value} {cargs : List Value} {lh : List (Option LCell)} {lv : List LV} {w : World} {g : FuncId} {first captured args : List AV} (hv : TRepL I μ lh lv (x :: cargs) (.func (.func g) first captured :: args))
    (hs : AllSpare I w (x :: cargs) (.func (.func g) first captured :: args)) (hlp : (first.map AV.dis ++ args ++ captured.map AV.dis).any AV.isLp = false) :
    ∃ f c : Array Value, x = .func (.func g) f c ∧ RepL I μ (f.toList ++ cargs ++ c.toList) (first.map AV.dis ++ args ++ captured.map AV.dis) ∧ AllSpare I w (f.toList ++ cargs ++ c.toList) (first.map AV.dis ++ args ++ captured.map AV.dis) ∧
      ∀ b, tcs b (f.toList ++ cargs ++ c.toList) (first.map AV.dis ++ args ++ captured.map AV.dis) = tcs b (x :: cargs) (.func (.func g) first captured :: args) := by
  have h1 := hv.uncons.1
  have h2 := hv.uncons.2
  cases h1 with
  | func fn f c af ac r1 r2 _ =>
    have hargs : RepL I μ cargs args := h2.repL (by
      rw [List.any_append, List.any_append] at hlp
      simp only [Bool.or_eq_false_iff] at hlp
      exact hlp.1.2)
    obtain ⟨s1, s2⟩ := RepL.argSpare (I := I) (w := w) (cargs := f.toList) (noOwn_map_dis first)
    obtain ⟨s3, s4⟩ := RepL.argSpare (I := I) (w := w) (cargs := c.toList) (noOwn_map_dis captured)
    have hs2 : AllSpare I w cargs args := fun i v a hv ha => hs (i + 1) v a (by simpa using hv) (by simpa using ha)
    refine ⟨f, c, rfl, (r1.dis.append hargs).append r2.dis, AllSpare.append (by have := r1.dis.length; have := hargs.length; simp at *; omega) (AllSpare.append r1.dis.length s1 hs2) s3, fun b => ?_⟩
    have e1 := zsum_append (tc b) (l := f.toList ++ cargs) (l' := c.toList) (m := first.map AV.dis ++ args) (m' := captured.map AV.dis) (by have := r1.dis.length; have := hargs.length; simp at *; omega)
    have e2 := zsum_append (tc b) (l := f.toList) (l' := cargs) (m := first.map AV.dis) (m' := args) r1.dis.length
    have e3 := s2 b
    have e4 := s4 b
    simp only [tcs] at *
    rw [e1, e2]
    simp only [zsum, tc]
    omega

theorem op_sound (hcall : CallSound P B.I call) {s : St} {a : Act} {cs : List Frame} {w : World} {HV : List (List Value)} {lv : List LV} (h : Good B s a cs w I μ HV lv) {f : FuncId} {o : Oper} {r : SR} (hr : aop P cfg call f o s = some r)
    {b : Frame} {ops : Array Oper} {i : Nat} {rest : List Nat} {k : List Item} (ho : ops[i]? = some o) (hw : Region.wanted o (yielded ops a.tmps) = true) (hb : B.dk = true → b.kind = .deferred) :
    SRel P B r (lone (b.at a (.inRegion ops (i :: rest) :: k)) cs w) b ops rest k := by
  unfold aop at hr
  simp only at hr
  split at hr
  · rename_i hn
    have hev := eval_eq a
    split at hr
    · -- pure
      split at hr
      · rename_i v hv
        simp only [Option.some.injEq] at hr; subst hr
        obtain ⟨v', w', J, e1, e2⟩ := pure_step (P := P) h.inv hn hv
        rw [← hev] at e1
        refine ⟨a.put o.dst v', cs, w', J, μ, HV, lv, h.step (a' := a.put o.dst v') ?_ (put_defers ..) rfl rfl, .one (step_next ho hw e1 (.inl rfl))⟩
        simp only [put_tmps]; exact e2
      · cases hr
    · -- own variables
      rename_i l wr hcl
      split at hr
      · rename_i c hc
        split at hr
        · rename_i v c' hv
          simp only [Option.some.injEq] at hr; subst hr
          obtain ⟨n, v', w', lv', e1, e2, e3⟩ := loc_step (P := P) h.inv hn hcl hc hv
          rw [← hev] at e1
          refine ⟨a.put o.dst v', cs, w', I, μ, HV, lv', h.step (a' := a.put o.dst v') ?_ (put_defers ..) rfl rfl, .one (step_next ho hw e1 e2)⟩
          simp only [put_tmps]; exact e3
        · cases hr
      · cases hr
    · -- what is shared
      rename_i wr hcl
      have hmem : ∀ v g', ((∃ e, o.op = .alloc e) ∨ (∃ e x, o.op = .box e x) ∨ (∃ t a, o.op = .load t a) ∨ (∃ t a x, o.op = .store t a x)) →
          aglob P cfg call f o (vals s.tmps o.op.operands.toList (moves cfg f o)) s.g = some (.val v g') →
          SRel P B (.next { s with tmps := putT (disT s.tmps o.op.operands.toList (moves cfg f o)) o.dst v, g := g' }) (lone (b.at a (.inRegion ops (i :: rest) :: k)) cs w) b ops rest k := by
        intro v g' hop hg
        obtain ⟨n, v', w', ν, HV', e1, e2, e3, e4, e5⟩ := glob_mem_step (P := P) h.inv hn rfl hop hg
        rw [← hev] at e1
        refine ⟨a.put o.dst v', cs, w', I, ν, HV', lv, h.step (a' := a.put o.dst v') (J := I) ?_ (put_defers ..) e3 e4 (aglob_base hg), .one (step_next ho hw e1 e2)⟩
        simp only [put_tmps]; exact e5
      have hv := vals_rep h.inv.tms o.op.operands.toList (moves cfg f o)
      have hsp := vals_spare h.inv.tms h.inv.sp o.op.operands.toList (moves cfg f o)
      have hd := h.inv.dis o.op.operands.toList (moves cfg f o) hn
      have htd := fun b => tok_dis_le h.inv o.op.operands.toList (moves cfg f o) hn b
      -- what is put behind an operation that leaves world and memory as they are
      have hquiet : ∀ (g' : G) (v : AV) (v' : Value) (a1 : Act) (cs1 : List Frame), g'.H = s.g.H → Rep I μ v' v → NoOwn v → a1.tmps = a.tmps → DRel I μ a1.defers g'.defers → RmOk I μ B.cs cs1 g'.rm → g'.rm.isNone = s.g.rm.isNone → g'.base = s.g.base →
          Good B { s with tmps := putT (disT s.tmps o.op.operands.toList (moves cfg f o)) o.dst v, g := g' } (a1.put o.dst v') cs1 w I μ HV lv := by
        intro g' v v' a1 cs1 hgH hrep hno hat hdf hrm hin hbs
        have h3 := hd.put o.dst (v := v') (r := v) (.of hrep) (hno.spare w v') (fun b => by rw [hno.tc]; have := hd.one b; unfold Eng.tok; omega)
        refine ⟨?_, ?_, hrm, by rw [hin]; exact h.dk, h.eff, fun b hb => ?_, h.mu, by rw [hbs]; exact h.bs⟩
        · simp only [put_tmps, hat, hgH]; exact h3
        · rw [put_defers]; exact hdf
        · simp only [put_tmps, hat, hgH] at hb
          have t1 := tok_put_le (μ := μ) (HV := HV) (H := s.g.H) (lv := lv) (lh := s.lh) hd.tms.1 o.dst v' v b
          have t3 := htd b
          rw [hno.tc] at t1
          exact h.tk b (by omega)
      split at hr
      · -- it goes on
        rename_i v g' hg
        simp only [Option.some.injEq] at hr; subst hr
        have hg0 := hg
        unfold aglob at hg
        split at hg
        · rename_i e hop; exact hmem v g' (.inl ⟨e, hop⟩) hg0
        · rename_i e x hop; exact hmem v g' (.inr (.inl ⟨e, x, hop⟩)) hg0
        · rename_i t x id off hop hvs; exact hmem v g' (.inr (.inr (.inl ⟨t, x, hop⟩))) hg0
        · rename_i t x y id off u hop hvs; exact hmem v g' (.inr (.inr (.inr ⟨t, x, y, hop⟩))) hg0
        · -- call
          rename_i c hop
          split at hg
          · -- recover
            rename_i hc
            split at hg
            · obtain ⟨v', cs', q1, q2, q3, q4, q5, q6, hno⟩ := recover_rel h.rm rfl hg
              have hrun : (execOp a.eval o).run P w = .ok .recover w := by
                simp [execOp, hop, resolve, hc, invoke, builtin]
              have hdk : B.dk = true := by
                have := h.dk
                cases hx : B.dk with
                | true => rfl
                | false =>
                  rw [hx] at this
                  cases hrm : s.g.rm <;> rw [hrm] at this <;> simp [RM.isNone] at this
                  simp [arecover, hrm] at hg
              have hst := step_recoverOp (P := P) (b := b) (k := k) (cs := cs) (rest := rest) ho hw (hb hdk) hrun
              refine ⟨a.put o.dst v', cs', w, I, μ, HV, lv, hquiet g' v v' a cs' q4 q2 hno rfl (by rw [q5]; exact h.df) q3 q6 (arecover_base hg), .one ?_⟩
              rw [hst]
              cases hrd : recoverD cs with
              | none => rw [hrd] at q1; cases q1; rfl
              | some x => obtain ⟨x1, x2⟩ := x; rw [hrd] at q1; cases q1; rfl
            · cases hg
          · -- a function
            rename_i x hc
            split at hg
            · rename_i g first captured args hvs
              unfold acallv at hg
              split at hg
              · cases hg
              · rename_i hlp
                have hops : o.op.operands.toList = x :: c.args.toList := by simp [hop, Op.operands, Call.operands, hc]
                have hv' := hv
                have hsp' := hsp
                rw [hvs, hops] at hv' hsp'
                obtain ⟨cf, cc, z1, z2, z3, z4⟩ := call_args hv' hsp' (by simpa using hlp)
                have htc : ∀ b, tcs b (cf.toList ++ c.args.toList.map (cevals a.tmps.toList) ++ cc.toList) (first.map AV.dis ++ args ++ captured.map AV.dis) ≤ tcs b (o.op.operands.toList.map (cevals a.tmps.toList)) (vals s.tmps o.op.operands.toList (moves cfg f o)) := fun b => by
                  rw [hvs, hops]; exact Nat.le_of_eq (z4 b)
                have hone : ∀ b, argTok μ HV s.g.H (cf.toList ++ c.args.toList.map (cevals a.tmps.toList) ++ cc.toList) (first.map AV.dis ++ args ++ captured.map AV.dis) b ≤ 1 := fun b => by
                  have q1 := htc b; have q2 := htd b; have q3 := h.inv.one b
                  unfold argTok; unfold Eng.tok at q2; omega
                split at hg
                · rename_i v1 rm1 H1 hcl1
                  simp only [Option.some.injEq, GR.val.injEq] at hg; obtain ⟨rfl, rfl⟩ := hg
                  obtain ⟨⟨fn, body, hf, hbd, hng⟩, hcalls⟩ := hcall g _ .none s.g.H _ hcl1 I μ HV w _ h.eff.le h.inv.h z2 z3 hone
                  simp only at hcalls
                  have hrun := call_run (P := P) (o := o) hop hc (ρ := a.eval) (by rw [hev]; exact z1) hf hbd hng w
                  have hca : cf ++ c.args.map a.eval ++ cc = (cf.toList ++ c.args.toList.map (cevals a.tmps.toList) ++ cc.toList).toArray := by
                    apply Array.ext'; simp [hev]
                  rw [hca] at hrun
                  obtain ⟨e, w', ⟨J, ν, HV', hp⟩, hst⟩ := call_arrives (P := P) (b := b) (k := k) (cs := cs) (rest := rest) ho hw hrun hcalls (by
                    rintro w' ⟨J, ν, HV', hp⟩
                    obtain ⟨v', hv', _⟩ := hp.outr
                    cases hv')
                  obtain ⟨v', rfl, hrep, hspr⟩ := hp.outr
                  obtain ⟨f1, f2, f3, f4, f5⟩ := call_frame h.inv hn htc hp
                  simp only [outTok] at f4 f5
                  have h3 := f1.put o.dst (v := v') (r := v1) (.of hrep) hspr f4
                  refine ⟨a.put o.dst v', cs, w', J, ν, HV', lv, ⟨?_, ?_, h.rm.mono f2.le f3, h.dk, h.eff.trans f2 h.tk, fun b' hb' => ?_, h.mu.trans f3, h.bs⟩, hst⟩
                  · simp only [put_tmps]; exact h3
                  · rw [put_defers]; exact h.df.mono f2.le f3
                  · simp only [put_tmps] at hb'
                    have t1 := tok_put_le (μ := ν) (HV := HV') (H := H1) (lv := lv) (lh := s.lh) f1.tms.1 o.dst v' v1 b'
                    rcases f5 b' (by omega) with h1 | h1
                    · exact h.tk b' h1
                    · exact .inr (Nat.le_trans h.eff.size h1)
                · cases hg
                · cases hg
            · cases hg
          · cases hg
        · -- defer
          rename_i c hop
          split at hg
          · rename_i x hc
            split at hg
            · rename_i g first captured args hvs
              split at hg
              · cases hg
              · rename_i hlp
                simp only [Option.some.injEq, GR.val.injEq] at hg; obtain ⟨rfl, rfl⟩ := hg
                have hops : o.op.operands.toList = x :: c.args.toList := by simp [hop, Op.operands, Call.operands, hc]
                have hv' := hv
                rw [hvs, hops] at hv'
                have h1 := hv'.uncons.1
                have hargs : RepL I μ (c.args.toList.map (cevals a.tmps.toList)) args := hv'.uncons.2.repL (by
                  have hlp' : (first ++ args ++ captured).any AV.isLp = false := by simpa using hlp
                  rw [List.any_append, List.any_append] at hlp'
                  simp only [Bool.or_eq_false_iff] at hlp'
                  exact hlp'.1.2)
                obtain ⟨cf, cc, hx, r1, r2⟩ : ∃ cf cc : Array Value, cevals a.tmps.toList x = .func (.func g) cf cc ∧ RepL I μ cf.toList first ∧ RepL I μ cc.toList captured := by
                  generalize cevals a.tmps.toList x = u at h1
                  cases h1 with
                  | func fn f c af ac r1 r2 _ => exact ⟨f, c, rfl, r1, r2⟩
                have hrun : (execOp a.eval o).run P w = .ok (.defer { target := .fn (.func g) cc, args := cf ++ c.args.map a.eval }) w := by
                  simp [execOp, hop, resolve, hc, hev, hx, Deferred.ofValue]
                refine ⟨_, cs, w, I, μ, HV, lv, hquiet _ (.val undef) undef { a with defers := _ :: a.defers } cs rfl (.val _ .nil) (fun _ _ h => by cases h) rfl ⟨⟨cc, rfl, ?_, noOwn_map_dis _⟩, h.df⟩ h.rm rfl rfl, .one (step_deferOp ho hw hrun)⟩
                have := ((r1.append hargs).append r2).dis
                simpa [hev] using this
            · cases hg
          · cases hg
        · cases hg
        · cases hg
      · -- it panics
        rename_i v g' hg
        simp only [Option.some.injEq] at hr; subst hr
        unfold aglob at hg
        split at hg
        · split at hg <;> simp at hg
        · split at hg <;> simp at hg
        · split at hg
          · split at hg
            · split at hg <;> simp at hg
            · simp at hg
          · simp at hg
        · split at hg
          · split at hg <;> simp at hg
          · simp at hg
        · rename_i c hop
          split at hg
          · split at hg
            · unfold arecover at hg; split at hg <;> simp at hg
            · cases hg
          · rename_i x hc
            split at hg
            · rename_i g first captured args hvs
              unfold acallv at hg
              split at hg
              · cases hg
              · rename_i hlp
                have hops : o.op.operands.toList = x :: c.args.toList := by simp [hop, Op.operands, Call.operands, hc]
                have hv' := hv
                have hsp' := hsp
                rw [hvs, hops] at hv' hsp'
                obtain ⟨cf, cc, z1, z2, z3, z4⟩ := call_args hv' hsp' (by simpa using hlp)
                have htc : ∀ b, tcs b (cf.toList ++ c.args.toList.map (cevals a.tmps.toList) ++ cc.toList) (first.map AV.dis ++ args ++ captured.map AV.dis) ≤ tcs b (o.op.operands.toList.map (cevals a.tmps.toList)) (vals s.tmps o.op.operands.toList (moves cfg f o)) := fun b => by
                  rw [hvs, hops]; exact Nat.le_of_eq (z4 b)
                have hone : ∀ b, argTok μ HV s.g.H (cf.toList ++ c.args.toList.map (cevals a.tmps.toList) ++ cc.toList) (first.map AV.dis ++ args ++ captured.map AV.dis) b ≤ 1 := fun b => by
                  have q1 := htc b; have q2 := htd b; have q3 := h.inv.one b
                  unfold argTok; unfold Eng.tok at q2; omega
                split at hg
                · cases hg
                · rename_i v1 rm1 H1 hcl1
                  simp only [Option.some.injEq, GR.panic.injEq] at hg; obtain ⟨rfl, rfl⟩ := hg
                  obtain ⟨⟨fn, body, hf, hbd, hng⟩, hcalls⟩ := hcall g _ .none s.g.H _ hcl1 I μ HV w _ h.eff.le h.inv.h z2 z3 hone
                  simp only at hcalls
                  have hrun := call_run (P := P) (o := o) hop hc (ρ := a.eval) (by rw [hev]; exact z1) hf hbd hng w
                  have hca : cf ++ c.args.map a.eval ++ cc = (cf.toList ++ c.args.toList.map (cevals a.tmps.toList) ++ cc.toList).toArray := by
                    apply Array.ext'; simp [hev]
                  rw [hca] at hrun
                  obtain ⟨e, w', ⟨J, ν, HV', hp⟩, hst⟩ := call_arrives (P := P) (b := b) (k := k) (cs := cs) (rest := rest) ho hw hrun hcalls (by
                    rintro w' ⟨J, ν, HV', hp⟩
                    obtain ⟨v', hv', _⟩ := hp.outr
                    cases hv')
                  obtain ⟨chain, rfl, hch⟩ := hp.outr
                  obtain ⟨f1, f2, f3, f4, f5⟩ := call_frame h.inv hn htc hp
                  simp only [outTok] at f4 f5
                  refine ⟨a, cs, w', J, ν, HV', lv, chain, ⟨f1, h.df.mono f2.le f3, h.rm.mono f2.le f3, h.dk, h.eff.trans f2 h.tk, fun b' hb' => ?_, h.mu.trans f3, h.bs⟩, hch, hst⟩
                  rcases f5 b' (by simpa using hb') with h1 | h1
                  · exact h.tk b' h1
                  · exact .inr (Nat.le_trans h.eff.size h1)
                · cases hg
            · cases hg
          · cases hg
        · split at hg
          · split at hg
            · split at hg <;> simp at hg
            · cases hg
          · cases hg
        · rename_i x t u hop hvs
          simp only [Option.some.injEq, GR.panic.injEq] at hg; obtain ⟨rfl, rfl⟩ := hg
          have hops : o.op.operands.toList = [x] := by simp [hop, Op.operands]
          have hv' := hv
          rw [hvs, hops] at hv'
          have h1 := hv'.uncons.1
          obtain ⟨y, hy, hrep⟩ : ∃ y, cevals a.tmps.toList x = .iface t y ∧ Rep I μ (.iface t y) (.iface t u) := by
            generalize cevals a.tmps.toList x = z at h1
            cases h1 with
            | iface _ _ _ h2 _ => exact ⟨_, rfl, .iface _ _ _ h2 .nil⟩
          have hrun : (execOp a.eval o).run P w = .halt (.panic (.iface t y)) w := by
            simp [execOp, hop, hev, hy, Instr.panic]
          refine ⟨a, cs, w, I, μ, HV, lv, _, ⟨hd, h.df, h.rm, h.dk, h.eff, fun b' hb' => ?_, h.mu, h.bs⟩, ⟨_, [], rfl, by simp, hrep⟩, ⟨_, .one (step_panicOp ho hw hrun)⟩⟩
          have := htd b'
          simp only at hb'
          exact h.tk b' (by omega)
        · cases hg
      · cases hr
  · cases hr

/-- A region's operations in an order. -/
theorem ops_sound (hcall : CallSound P B.I call) {f : FuncId} {ops : Array Oper} : ∀ (l : List Nat) {s : St} {x : AX} {s' : St}, aops P cfg call f ops l s = some (x, s') →
    ∀ {a : Act} {cs : List Frame} {w : World} {I : Mem} {μ : List Nat} {HV : List (List Value)} {lv : List LV}, Good B s a cs w I μ HV lv → ∀ {b : Frame} {k : List Item}, (B.dk = true → b.kind = .deferred) →
      (x = .normal ∧ Goes P B s' (lone (b.at a (.inRegion ops l :: k)) cs w) b ops [] k) ∨ ∃ v, x = .panic v ∧ Panics P B v s' (lone (b.at a (.inRegion ops l :: k)) cs w) b k := by
  intro l
  induction l with
  | nil =>
    intro s x s' hr a cs w I μ HV lv h b k hb
    simp only [aops, Option.some.injEq, Prod.mk.injEq] at hr
    obtain ⟨rfl, rfl⟩ := hr
    exact .inl ⟨rfl, a, cs, w, I, μ, HV, lv, h, Steps.refl P _⟩
  | cons i rest ih =>
    intro s x s' hr a cs w I μ HV lv h b k hb
    simp only [aops] at hr
    split at hr
    · cases hr
    · rename_i o ho
      have hnext : ∀ s1, Goes P B s1 (lone (b.at a (.inRegion ops (i :: rest) :: k)) cs w) b ops rest k → aops P cfg call f ops rest s1 = some (x, s') →
          (x = .normal ∧ Goes P B s' (lone (b.at a (.inRegion ops (i :: rest) :: k)) cs w) b ops [] k) ∨ ∃ v, x = .panic v ∧ Panics P B v s' (lone (b.at a (.inRegion ops (i :: rest) :: k)) cs w) b k := by
        rintro s1 ⟨a1, cs1, w1, I1, μ1, HV1, lv1, g1, st1⟩ hr1
        rcases ih hr1 g1 (b := b) (k := k) hb with ⟨rfl, a2, cs2, w2, I2, μ2, HV2, lv2, g2, st2⟩ | ⟨v, rfl, a2, cs2, w2, I2, μ2, HV2, lv2, ch, g2, c2, st2⟩
        · exact .inl ⟨rfl, a2, cs2, w2, I2, μ2, HV2, lv2, g2, st1.trans st2⟩
        · exact .inr ⟨v, rfl, a2, cs2, w2, I2, μ2, HV2, lv2, ch, g2, c2, .of_steps st1 st2⟩
      split at hr
      · rename_i s1 hs
        unfold astep at hs
        split at hs
        · rename_i hw
          exact hnext s1 (op_sound hcall h hs ho (wanted_sound h hw) hb) hr
        · rename_i hw
          simp only [Option.some.injEq, SR.next.injEq] at hs
          subst hs
          have hw' := wanted_sound h hw
          have h3 := h.inv.put o.dst (v := undef) (r := .val undef) (.of (.val _ .nil)) (fun _ _ _ _ _ _ _ h => by cases h) (fun b => by have := h.inv.one b; unfold Eng.tok; simp only [tc, undef]; omega)
          refine hnext { s with tmps := putT s.tmps o.dst (.val undef) } ⟨a.put o.dst undef, cs, w, I, μ, HV, lv, ⟨?_, by rw [put_defers]; exact h.df, h.rm, h.dk, h.eff, fun b' hb' => ?_, h.mu, h.bs⟩, .one ?_⟩ hr
          · simp only [put_tmps]; exact h3
          · simp only [put_tmps] at hb'
            have t1 := tok_put_le (μ := μ) (HV := HV) (H := s.g.H) (lv := lv) (lh := s.lh) h.inv.tms.1 o.dst undef (.val undef) b'
            have t4 : tc b' undef (.val undef) = 0 := rfl
            exact h.tk b' (by omega)
          · have := step_op_skip (P := P) (b := b) (a := a) (k := k) (cs := cs) (w := w) (ops := ops) (i := i) (rest := rest) (by simp [ho, hw'])
            simp only [ho, Option.bind_some] at this
            exact this
        · cases hs
      · rename_i v s1 hs
        simp only [Option.some.injEq, Prod.mk.injEq] at hr
        obtain ⟨rfl, rfl⟩ := hr
        unfold astep at hs
        split at hs
        · rename_i hw
          exact .inr ⟨v, rfl, op_sound hcall h hs ho (wanted_sound h hw) hb⟩
        · cases hs
        · cases hs
      · cases hr
end
end Go.Eng
end
