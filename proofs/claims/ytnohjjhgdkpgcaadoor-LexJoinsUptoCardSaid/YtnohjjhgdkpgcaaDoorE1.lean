/-
  THE ENGINE, part 1: an abstract interpreter of the model's code over values without addresses (the definitions alone).
  Slices are lists of rows, structs are lists of cells, boxes that nobody writes are their content; what is written lies in a heap of its own, by number.
  Nothing here speaks of one program.
-/
import Derived.Calls
import Derived.Defers
import Derived.Recover
import Derived.Orders
import Derived.Laws.Sem
import Derived.Laws.AppendOwn
import Derived.Laws.CopyRow
import Derived.Laws.Entries
set_option linter.unusedVariables false
set_option linter.unusedSimpArgs false
namespace Go.Eng

/-- What is known of a slice's spare places: nothing; that there are none; that they are this value's own. -/
inductive Own | no | full | yes
  deriving DecidableEq, Repr, Inhabited

/-- Abstract values. 'any': nothing is known. 'ref': a pointer to cells that nobody writes. 'ptr': into the heap. 'lp': into a frame's own variable, by its slot. -/
inductive AV where
  | any
  | val (v : Value)
  | slice (sz : Nat) (rows : List (List AV)) (own : Own)
  | ref (cells : List AV)
  | ptr (id off : Nat)
  | lp (t gen off : Nat)
  | func (fn : Fn) (first captured : List AV)
  | iface (t : TypeId) (v : AV)
  | agg (cells : List AV)
  | tuple (vs : List AV)
  deriving Inhabited

abbrev Heap := List (List AV)

/-- What is told of a function: which of its variables' blocks nobody writes (imm), which stay in the frame (loc), which slots take a slice with its spare places (mv), which parameters do (takes); at the loop in a block: the slots that are alive. Bit by bit. -/
structure FCfg where
  imm : Nat := 0
  loc : Nat := 0
  mv : Nat := 0
  takes : Nat := 0
  live : List (Nat × Nat) := []
  ext : Bool := false
  norm : Bool := false
  deriving Inhabited

/-- How the frame that is called stands to its caller: called plainly; as a deferred call while the caller returns; or while it panics (recovered or not). -/
inductive RM where
  | none
  | returning
  | panicking (v : AV) (recovered : Bool)
  deriving Inhabited

inductive Out where
  | ret (v : AV)
  | panic (v : AV)
  deriving Inhabited

structure CRes where
  out : Out
  rm : RM
  H : Heap
  deriving Inhabited

structure ADef where
  f : FuncId
  args : List AV
  deriving Inhabited

/-- What a frame shares with others, and its deferred calls; how many blocks there were where it began. -/
structure G where
  H : Heap
  defers : List ADef
  rm : RM
  base : Nat
  deriving Inhabited

/-- A frame's own variable: how often it was made, its cells. -/
abbrev LCell := Nat × List AV

/-- A frame at work. -/
structure St where
  tmps : List AV
  lh : List (Option LCell)
  g : G
  deriving Inhabited

/-- A computation that asks neither memory nor draws. -/
def semVal (P : Program) {α : Type} : Sem α → Option α
  | .pure a => some a
  | .program k => semVal P (k P)
  | .mark _ k => semVal P k
  | _ => none

def ofCell : Value → AV
  | .slice none 0 0 => .slice 0 [] .full
  | .func fn f c => .func fn (f.toList.map .val) (c.toList.map .val)
  | v => .val v

def ofVal : Value → AV
  | .agg cs => if cs.toList.all Value.oneCell' = true then .agg (cs.toList.map ofCell) else .val (.agg cs)
  | v => ofCell v

def AV.dis : AV → AV
  | .slice sz rows .yes => .slice sz rows .no
  | v => v

/-- The cells of a value that lies in memory. -/
def AV.cells : AV → Option (List AV)
  | .agg cs => some cs
  | .any => none
  | .lp _ _ _ => none
  | .tuple _ => none
  | .val v => match v with | .agg _ => none | .tuple _ => none | v => some [.val v]
  | v => some [v]

/-- The cells of a value that is stored: a slice alone takes its spare places along. -/
def AV.scells (v : AV) : Option (List AV) :=
  match v with
  | .slice sz rows own => some [.slice sz rows own]
  | v => v.cells.map (·.map AV.dis)

def cellsVal : List AV → Option (List Value)
  | [] => some []
  | .val v :: l => (cellsVal l).map (v :: ·)
  | _ :: _ => none

/-- The value itself, where it holds no address. -/
def AV.toVal : AV → Option Value
  | .val v => some v
  | .agg cs => (cellsVal cs).map fun l => .agg l.toArray
  | .iface t (.val v) => some (.iface t v)
  | _ => none

def AV.isLp : AV → Bool
  | .lp _ _ _ => true
  | _ => false

def aeval (s : List AV) : Operand → AV
  | .tmp t => s.getD t .any
  | .const v => ofVal v
  | .global g => .val (.pointer (some ⟨g, 0, none⟩))
  | .func f => .func (.func f) [] []

section
variable (P : Program)

def zeroCells (t : TypeId) : Option (List AV) :=
  match (P.info? t).bind (·.zero) with
  | some v => if v.cells.toList.all Value.oneCell' = true then some (v.cells.toList.map ofCell) else none
  | none => none
def size? (t : TypeId) : Option Nat := (P.info? t).map (·.size)
def isAgg? (t : TypeId) : Option Bool := (P.underlying t).map fun | .struct _ => true | .array _ _ => true | _ => false

/-- What a variable of a type holds, out of its cells from an offset on. -/
def readCells (t : TypeId) (cs : List AV) (off : Nat) : Option AV :=
  match isAgg? P t with
  | some true => match size? P t with
    | some n => if off + n ≤ cs.length then some (.agg (((cs.drop off).take n).map AV.dis)) else none
    | none => none
  | some false => (cs[off]?).map AV.dis
  | none => none

def writeCells (cs : List AV) (off : Nat) : List AV → List AV
  | [] => cs
  | v :: r => writeCells (cs.set off v) (off + 1) r

/-- The places of a struct's or an array's parts. -/
def place? (t : TypeId) (i : Nat) : Option (Nat × Nat) :=
  match P.underlying t with
  | some (.struct fs) => (fs[i]?).bind fun f => (size? P f.type).map fun n => (f.offset, n)
  | some (.array _ e) => (size? P e).map fun n => (i * n, n)
  | some (.slice e) => (size? P e).map fun n => (i * n, n)
  | _ => none

def fillA (t : TypeId) (cells : List AV) : List (Nat × AV) → Option (List AV)
  | [] => some cells
  | (i, v) :: rest =>
    match place? P t i, v.cells with
    | some (off, n), some cs => if cs.length = n ∧ off + n ≤ cells.length then fillA t (writeCells cells off (cs.map AV.dis)) rest else none
    | _, _ => none

def chunks (sz : Nat) : Nat → List AV → List (List AV)
  | 0, _ => []
  | n + 1, l => l.take sz :: chunks sz n (l.drop sz)

def repeatCells (zero : List AV) (n : Nat) : List AV := (List.replicate n zero).flatten

/-- Is a value the nil of its kind? -/
def AV.isNil : AV → Option Bool
  | .val (.pointer none) => some true
  | .val .nilIface => some true
  | .val .nilFunc => some true
  | .ref _ => some false
  | .ptr _ _ => some false
  | .lp _ _ _ => some false
  | .func _ _ _ => some false
  | .iface _ _ => some false
  | _ => none

def isPtrNil (P : Program) (t : TypeId) (a b : AV) : Option Bool :=
  match P.underlying t, a, b with
  | some (.pointer _), .val (.pointer none), .ref _ => some false
  | some (.pointer _), .val (.pointer none), .ptr _ _ => some false
  | some (.pointer _), .val (.pointer none), .lp _ _ _ => some false
  | some (.pointer _), .ref _, .val (.pointer none) => some false
  | some (.pointer _), .ptr _ _, .val (.pointer none) => some false
  | some (.pointer _), .lp _ _ _, .val (.pointer none) => some false
  | some (.interface _), .iface _ _, .val .nilIface => some false
  | some (.interface _), .val .nilIface, .iface _ _ => some false
  | some (.func ..), .func _ _ _, .val .nilFunc => some false
  | some (.func ..), .val .nilFunc, .func _ _ _ => some false
  | _, _, _ => none

def abin (op : BinOp) (t : TypeId) (x y : Operand) (a b : AV) : Option AV :=
  match a.toVal, b.toVal with
  | some va, some vb => (semVal P (do eqGuard op t x y va vb; binOp op t va vb)).map ofVal
  | _, _ => match op with
    | .eql => (isPtrNil P t a b).map fun r => .val (.bool r)
    | .neq => (isPtrNil P t a b).map fun r => .val (.bool (!r))
    | _ => none

def bytesOfRows : List (List AV) → Option (List UInt8)
  | [] => some []
  | [.val (.int .u8 n)] :: r => (bytesOfRows r).map (UInt8.ofNat n.toNat :: ·)
  | _ :: _ => none

def aconvert (src dst : TypeId) (a : AV) : Option AV :=
  match a with
  | .val v => (semVal P (convert src dst v)).map ofVal
  | .slice _ rows _ => match P.underlying src, P.underlying dst with
    | some (.slice e), some .string => match P.underlying e, bytesOfRows rows with
      | some (.int .u8), some l => some (.val (.string ⟨l.toArray⟩))
      | _, _ => none
    | _, _ => none
  | _ => none

def intOf? : AV → Option (IntKind × Int)
  | .val (.int k n) => some (k, n)
  | _ => none

def bound? (x : Option AV) (dflt most : Nat) : Option Nat :=
  match x with
  | none => some dflt
  | some (.val (.int _ i)) => if 0 ≤ i ∧ i ≤ (most : Int) then some i.toNat else none
  | _ => none

def aslice (t : TypeId) (a : AV) (lo hi mx : Option AV) : Option AV :=
  match P.underlying t, a with
  | some .string, .val (.string s) =>
    match mx, bound? hi s.size s.size with
    | none, some h => match bound? lo 0 h with
      | some l => some (.val (.string (s.extract l h)))
      | none => none
    | _, _ => none
  | some (.slice e), .slice sz rows own => match size? P e with
    | some n => if rows = [] ∨ n = sz then match mx with
        | none => match bound? hi rows.length rows.length with
          | some h => match bound? lo 0 h with
            | some l => some (.slice sz ((rows.drop l).take (h - l)) (if h = rows.length ∧ own = .full then .full else .no))
            | none => none
          | none => none
        | some m => match hi with
          | none => none
          | some hi => match bound? (some m) 0 rows.length with
            | some m => match bound? (some hi) 0 m with
              | some h => match bound? lo 0 h with
                | some l => some (.slice sz ((rows.drop l).take (h - l)) (if h = m then .full else .no))
                | none => none
              | none => none
            | none => none
      else none
    | none => none
  | _, _ => none

def afieldAddr (t : TypeId) (a : AV) (i : Nat) : Option AV :=
  match P.underlying t with
  | some (.struct fs) => match fs[i]? with
    | some f => match size? P f.type with
      | some (_ + 1) => match a with
        | .ref cs => if f.offset ≤ cs.length then some (.ref (cs.drop f.offset)) else none
        | .ptr id o => some (.ptr id (o + f.offset))
        | .lp t g o => some (.lp t g (o + f.offset))
        | _ => none
      | _ => none
    | none => none
  | _ => none

def partA (t : TypeId) (cs : List AV) (off : Nat) : Option AV := readCells P t cs off

def afield (t : TypeId) (a : AV) (i : Nat) : Option AV :=
  match P.underlying t, a with
  | some (.struct fs), .agg cs => match fs[i]? with
    | some f => partA P f.type cs f.offset
    | none => none
  | _, _ => none

def aindexAddr (t : TypeId) (a ix : AV) : Option AV :=
  match P.underlying t, ix with
  | some (.slice e), .val (.int _ i) => match a with
    | .slice sz rows _ => if 0 ≤ i then match rows[i.toNat]? with
        | some r => if size? P e = some sz then some (.ref r) else none
        | none => none
      else none
    | _ => none
  | some (.array len e), .val (.int _ i) => if 0 ≤ i ∧ i < (len : Int) then match size? P e with
      | some n => match a with
        | .ref cs => if i.toNat * n ≤ cs.length then some (.ref (cs.drop (i.toNat * n))) else none
        | .ptr id o => some (.ptr id (o + i.toNat * n))
        | .lp t g o => some (.lp t g (o + i.toNat * n))
        | _ => none
      | none => none
    else none
  | _, _ => none

def aindex (t : TypeId) (a ix : AV) : Option AV :=
  match P.underlying t, a, ix with
  | some (.array len e), .agg cs, .val (.int _ i) => if 0 ≤ i ∧ i < (len : Int) then match size? P e with
      | some n => partA P e cs (i.toNat * n)
      | none => none
    else none
  | some .string, .val (.string s), .val (.int _ i) => if 0 ≤ i then (s[i.toNat]?).map fun b => .val (.int .u8 b.toNat) else none
  | _, _, _ => none

def atypeAssert (a : AV) (asserted : TypeId) (ok : Bool) : Option AV :=
  let fails : Option AV := if ok then match (P.info? asserted).bind (·.zero) with
      | some z => some (.tuple [ofVal z, .val (.bool false)])
      | none => none
    else none
  match P.underlying asserted with
  | some (.interface _) => none
  | none => none
  | some _ => match a with
    | .iface t v => if t = asserted then some (if ok then .tuple [v, .val (.bool true)] else v.dis) else fails
    | .val .nilIface => fails
    | _ => none

def alen (t : TypeId) (a : AV) : Option AV :=
  match P.underlying t, a with
  | some (.slice _), .slice _ rows _ => some (.val (.int .i64 rows.length))
  | some .string, .val (.string s) => some (.val (.int .i64 s.size))
  | _, _ => none

/-- The rows that a value appends. -/
def newRows : AV → Option (Nat × List (List AV))
  | .slice sz rows _ => some (sz, rows)
  | .val (.string s) => some (1, s.data.toList.map fun b => [.val (.int .u8 b.toNat)])
  | _ => none

def aappend (ts : Array TypeId) (a b : AV) : Option AV :=
  match ts[0]?, ts[1]? with
  | some st, some xt => match P.underlying st, P.underlying xt with
    | some (.slice e), some xd => match xd with
      | .int _ => none
      | _ => match a, newRows b, P.info? e with
        | .slice sz rows own, some (sz', new), some i =>
          if new = [] then some (.slice sz rows own)
          else if (sz = i.size ∨ (rows = [] ∧ own = .full)) ∧ sz' = i.size ∧ own ≠ .no ∧ rows.length + new.length ≤ 2147483648 ∧ i.bytes ≤ 4096 ∧ i.zero.map (·.cells.size) = some i.size then
            some (.slice i.size (rows ++ new.map (·.map AV.dis)) .yes)
          else none
        | _, _, _ => none
    | _, _ => none
  | _, _ => none

def amakeSlice (t : TypeId) (len cap : AV) : Option AV :=
  match P.underlying t, len, cap with
  | some (.slice e), .val (.int _ l), .val (.int _ c) => match P.info? e with
    | some i => match i.zero with
      | some z => if 0 ≤ l ∧ l ≤ c ∧ c ≤ 2147483648 ∧ i.bytes ≤ 4096 ∧ 0 < i.size ∧ z.cells.size = i.size ∧ z.cells.toList.all Value.oneCell' = true then
          some (.slice i.size (List.replicate l.toNat (z.cells.toList.map ofCell)) (if l = c then .full else .yes))
        else none
      | none => none
    | none => none
  | _, _, _ => none

def allVals : List AV → Option (List Value)
  | [] => some []
  | a :: r => match a.toVal, allVals r with
    | some v, some l => some (v :: l)
    | _, _ => none

end


inductive Cls where
  | pure
  | loc (l : Nat) (write : Bool)
  | glob (write : Bool)
  deriving Inhabited

inductive GR where
  | val (v : AV) (g : G)
  | panic (v : AV) (g : G)
  deriving Inhabited

section
variable (P : Program) (cfg : FuncId → FCfg) (call : FuncId → List AV → RM → Heap → Option CRes)

def dstBit (m : Nat) (d : Option Tmp) : Bool :=
  match d with
  | some t => m.testBit t
  | none => false

def takesOf (m : Nat) : Nat → List Operand → List Bool
  | _, [] => []
  | i, _ :: r => m.testBit i :: takesOf m (i + 1) r

/-- Which operands are taken with their spare places. -/
def moves (f : FuncId) (o : Oper) : List Bool :=
  match o.op with
  | .move _ => [dstBit (cfg f).mv o.dst]
  | .assign _ => [dstBit (cfg f).mv o.dst]
  | .store _ _ _ => [false, true]
  | .call c => match c.callee with
    | .builtin .append => [true]
    | .value (.func g) => false :: takesOf (cfg g).takes 0 c.args.toList
    | _ => []
  | _ => []

/-- The operands' values; what is left where they were. -/
def vals (s : List AV) : List Operand → List Bool → List AV
  | [], _ => []
  | x :: r, b :: bs => (if b then aeval s x else (aeval s x).dis) :: vals s r bs
  | x :: r, [] => (aeval s x).dis :: vals s r []

def disT (s : List AV) : List Operand → List Bool → List AV
  | .tmp t :: r, true :: bs => disT (s.modify t AV.dis) r bs
  | _ :: r, _ :: bs => disT s r bs
  | _, _ => s

def movedTmps : List Operand → List Bool → List Tmp
  | .tmp t :: r, true :: bs => t :: movedTmps r bs
  | _ :: r, _ :: bs => movedTmps r bs
  | _, _ => []

def acls (f : FuncId) (o : Oper) (vs : List AV) : Cls :=
  match o.op with
  | .alloc _ | .box _ _ => match o.dst with
    | some t => if (cfg f).imm.testBit t then .pure else if (cfg f).loc.testBit t then .loc t true else .glob true
    | none => .glob true
  | .load _ _ => match vs with
    | [.ptr _ _] => .glob (dstBit (cfg f).mv o.dst)
    | [.lp l _ _] => .loc l (dstBit (cfg f).mv o.dst)
    | _ => .pure
  | .store _ _ _ => match vs with
    | .lp l _ _ :: _ => .loc l true
    | _ => .glob true
  | .call c => match c.callee with
    | .builtin .recover => .glob true
    | .builtin _ => .pure
    | _ => .glob true
  | .defer _ => .glob true
  | .panic _ => .glob true
  | _ => .pure

/-- The cells of a block that is made. -/
def newCells (o : Oper) (vs : List AV) : Option (List AV) :=
  match o.op, vs with
  | .alloc e, [] => zeroCells P e
  | .box _ _, [v] => v.cells.map (·.map AV.dis)
  | _, _ => none

def zipParts {α : Type} : List (Nat × α) → List AV → List (Nat × AV)
  | (i, _) :: r, v :: vs => (i, v) :: zipParts r vs
  | _, _ => []

def abuiltin (o : Oper) (b : Builtin) (ts : Array TypeId) (vs : List AV) : Option AV :=
  match b, vs with
  | .len, [x] => match ts[0]? with
    | some t => alen P t x
    | none => none
  | .append, [x, y] => aappend P ts x y
  | .max, l => match allVals l with
    | some vs => (semVal P (Builtin.max_ ts o.type vs.toArray)).map ofVal
    | none => none
  | .min, l => match allVals l with
    | some vs => (semVal P (Builtin.min_ ts o.type vs.toArray)).map ofVal
    | none => none
  | _, _ => none

def abuildSlice (t : TypeId) (n : Nat) (ps : List (Nat × AV)) : Option AV :=
  match P.underlying t with
  | some (.slice e) => match P.info? e with
    | some i => match i.zero with
      | some z => if z.cells.size = i.size ∧ 0 < i.size ∧ n * i.size ≤ 16777216 ∧ z.cells.toList.all Value.oneCell' = true then
          (fillA P t (repeatCells (z.cells.toList.map ofCell) n) ps).map fun cs => .slice i.size (chunks i.size n cs) .full
        else none
      | none => none
    | none => none
  | _ => none

def abuild (t : TypeId) (ps : List (Nat × AV)) : Option AV :=
  match P.underlying t with
  | some (.struct fs) => if fs.toList.all (fun f => (size? P f.type).isSome) = true then match zeroCells P t with
      | some z => (fillA P t z ps).map .agg
      | none => none
    else none
  | some (.array _ e) => match zeroCells P t, size? P e with
    | some z, some _ => (fillA P t z ps).map .agg
    | _, _ => none
  | _ => none

def anilCheck : AV → Option AV
  | .ref cs => some (.ref cs)
  | .ptr id k => some (.ptr id k)
  | .lp t g k => some (.lp t g k)
  | .func (.func g) a b => some (.func (.func g) a b)
  | _ => none

def amakeInterface (t : TypeId) (v : AV) : Option AV :=
  match P.underlying t with
  | some (.interface _) => none
  | none => none
  | some _ => if v.isLp then none else some (.iface t v)

def aextract (v : AV) (i : Nat) : Option AV :=
  match v with
  | .tuple vs => (vs[i]?).map AV.dis
  | .val (.tuple vs) => (vs[i]?).map ofVal
  | _ => none

def apure (o : Oper) (vs : List AV) : Option AV :=
  match o.op, vs with
  | .move _, [v] => some v
  | .assign _, [v] => some v
  | .pick _ _ _, [c, a, b] => match c with
    | .val (.bool true) => some a
    | .val (.bool false) => some b
    | _ => none
  | .alloc _, _ => (newCells P o vs).map .ref
  | .box _ _, _ => (newCells P o vs).map .ref
  | .build t ps, vs => if vs.any AV.isLp then none else abuild P t (zipParts ps.toList vs)
  | .buildSlice t n ps, vs => if vs.any AV.isLp then none else abuildSlice P t n (zipParts ps.toList vs)
  | .load t _, [.ref cs] => readCells P t cs 0
  | .nilCheck _, [v] => anilCheck v
  | .binOp op t x y _, [a, b] => abin P op t x y a b
  | .unOp op _ _, [v] => match v.toVal with
    | some w => (semVal P (Op.unary op w)).map ofVal
    | none => none
  | .convert a b _, [v] => aconvert P a b v
  | .makeInterface t _, [v] => amakeInterface P t v
  | .makeFunc fn a b, vs => if vs.any AV.isLp then none else some (.func fn (vs.take a.size) (vs.drop a.size))
  | .makeSlice t _ _, [l, c] => amakeSlice P t l c
  | .slice t _ l h m, x :: r =>
    let lo := if l.isSome then r.head? else none
    let r1 := if l.isSome then r.tail else r
    let hi := if h.isSome then r1.head? else none
    let r2 := if h.isSome then r1.tail else r1
    let mx := if m.isSome then r2.head? else none
    if l.isSome = lo.isSome ∧ h.isSome = hi.isSome ∧ m.isSome = mx.isSome ∧ (x :: r).any AV.isLp = false then aslice P t x lo hi mx else none
  | .fieldAddr t _ i, [v] => afieldAddr P t v i
  | .field t _ i, [v] => afield P t v i
  | .indexAddr t _ _, [v, i] => aindexAddr P t v i
  | .index t _ _, [v, i] => aindex P t v i
  | .typeAssert _ _ t ok, [v] => atypeAssert P v t ok
  | .extract _ i, [v] => aextract v i
  | .call c, vs => match c.callee with
    | .builtin b => abuiltin P o b c.argTypes vs
    | _ => none
  | _, _ => none

/-- What is done in a frame's own variable. -/
def aloc (f : FuncId) (o : Oper) (vs : List AV) (c : Option LCell) : Option (AV × Option LCell) :=
  match o.op, vs with
  | .alloc _, _ | .box _ _, _ => match o.dst, newCells P o vs with
    | some t, some cs => match c with
      | none => some (.lp t 0 0, some (0, cs))
      | some (g, _) => some (.lp t (g + 1) 0, some (g + 1, cs))
    | _, _ => none
  | .load t _, [.lp _ g off] => match c with
    | some (g', cs) => if g = g' then
        if dstBit (cfg f).mv o.dst then match isAgg? P t, cs[off]? with
          | some false, some v => some (v, some (g, cs.set off v.dis))
          | _, _ => none
        else (readCells P t cs off).map fun v => (v, some (g, cs))
      else none
    | none => none
  | .store t _ _, [.lp _ g off, v] => match c, v.scells, size? P t with
    | some (g', cs), some new, some n => if g = g' ∧ new.length = n ∧ off + n ≤ cs.length then
        some (.val undef, some (g, writeCells cs off new)) else none
    | _, _, _ => none
  | _, _ => none

def acallv (g : FuncId) (args : List AV) (m : G) : Option GR :=
  if args.any AV.isLp then none else
  match call g args .none m.H with
  | some ⟨.ret v, _, H⟩ => some (.val v { m with H := H })
  | some ⟨.panic v, _, H⟩ => some (.panic v { m with H := H })
  | none => none

def arecover (m : G) : Option GR :=
  match m.rm with
  | .none => none
  | .returning => some (.val (.val .nilIface) m)
  | .panicking v false => some (.val v.dis { m with rm := .panicking v true })
  | .panicking _ true => some (.val (.val .nilIface) m)

def aglob (f : FuncId) (o : Oper) (vs : List AV) (m : G) : Option GR :=
  match o.op, vs with
  | .alloc _, _ | .box _ _, _ => match newCells P o vs with
    | some cs => some (.val (.ptr m.H.length 0) { m with H := m.H ++ [cs] })
    | none => none
  | .load t _, [.ptr id off] => match m.H[id]? with
    | some cs => if dstBit (cfg f).mv o.dst then match isAgg? P t, cs[off]? with
        | some false, some v => some (.val v { m with H := m.H.set id (cs.set off v.dis) })
        | _, _ => none
      else (readCells P t cs off).map fun v => .val v m
    | none => none
  | .store t _ _, [.ptr id off, v] => match m.H[id]?, v.scells, size? P t with
    | some cs, some new, some n => if new.length = n ∧ off + n ≤ cs.length then
        some (.val (.val undef) { m with H := m.H.set id (writeCells cs off new) }) else none
    | _, _, _ => none
  | .call c, vs => match c.callee with
    | .builtin .recover => if vs = [] then arecover m else none
    | .value _ => match vs with
      | .func (.func g) first captured :: args => acallv call g (first.map AV.dis ++ args ++ captured.map AV.dis) m
      | _ => none
    | _ => none
  | .defer c, vs => match c.callee with
    | .value _ => match vs with
      | .func (.func g) first captured :: args => if (first ++ args ++ captured).any AV.isLp then none else some (.val (.val undef) { m with defers := ⟨g, (first ++ args ++ captured).map AV.dis⟩ :: m.defers })
      | _ => none
    | _ => none
  | .panic _, [.iface t v] => some (.panic (.iface t v) m)
  | _, _ => none

inductive SR where
  | next (s : St)
  | panic (v : AV) (s : St)
  deriving Inhabited

def putT (s : List AV) (d : Option Tmp) (v : AV) : List AV :=
  match d with
  | some t => s.set t v
  | none => s

def aop (f : FuncId) (o : Oper) (s : St) : Option SR :=
  let xs := o.op.operands.toList
  let ms := moves cfg f o
  let vs := vals s.tmps xs ms
  let ts := disT s.tmps xs ms
  if (movedTmps xs ms).Nodup then
    match acls cfg f o vs with
    | .pure => match apure P o vs with
      | some v => some (.next { s with tmps := putT ts o.dst v })
      | none => none
    | .loc l _ => match s.lh[l]? with
      | some c => match aloc P cfg f o vs c with
        | some (v, c') => some (.next { s with tmps := putT ts o.dst v, lh := s.lh.set l c' })
        | none => none
      | none => none
    | .glob _ => match aglob P cfg call f o vs s.g with
      | some (.val v g) => some (.next { s with tmps := putT ts o.dst v, g := g })
      | some (.panic v g) => some (.panic v { s with tmps := ts, g := g })
      | none => none
  else none

/-- The slot that a guard looks at. -/
def guardTmp (ops : Array Oper) (o : Oper) : Option Tmp :=
  match o.guard with
  | none => none
  | some (j, _) => (ops[j]?).bind (·.dst)

/-- Is an operation wanted (its guard)? -/
def wantedA (ops : Array Oper) (o : Oper) (ts : List AV) : Option Bool :=
  match o.guard with
  | none => some true
  | some (j, want) => match (ops[j]?).bind (·.dst) with
    | none => some false
    | some t => match ts[t]? with
      | none => some false
      | some (.val (.bool b)) => some (b == want)
      | some (.val _) => some false
      | some _ => none

def astep (f : FuncId) (ops : Array Oper) (o : Oper) (s : St) : Option SR :=
  match wantedA ops o s.tmps with
  | some true => aop P cfg call f o s
  | some false => some (.next { s with tmps := putT s.tmps o.dst (.val undef) })
  | none => none

inductive AX where
  | normal
  | exit (id : Nat)
  | ret
  | panic (v : AV)
  deriving Inhabited

/-- Operations of a region in an order. -/
def aops (f : FuncId) (ops : Array Oper) : List Nat → St → Option (AX × St)
  | [], s => some (.normal, s)
  | i :: r, s => match ops[i]? with
    | none => none
    | some o => match astep P cfg call f ops o s with
      | some (.next s') => aops f ops r s'
      | some (.panic v s') => some (.panic v, s')
      | none => none

/-- What an operation looks at and writes: a bit for what is shared (0), two bits for a slot t: 2 t + 1 its variable, 2 t + 2 its value. -/
def tmpBits : List Operand → Nat
  | [] => 0
  | .tmp t :: r => 2 ^ (2 * t + 2) ||| tmpBits r
  | _ :: r => tmpBits r

def optBit : Option Tmp → Nat
  | some t => 2 ^ (2 * t + 2)
  | none => 0

def listBits : List Tmp → Nat
  | [] => 0
  | t :: r => 2 ^ (2 * t + 2) ||| listBits r

def footR (f : FuncId) (ops : Array Oper) (o : Oper) (s : St) : Nat :=
  tmpBits o.op.operands.toList ||| optBit (guardTmp ops o) |||
    match wantedA ops o s.tmps with
    | some true => match acls cfg f o (vals s.tmps o.op.operands.toList (moves cfg f o)) with
      | .pure => 0
      | .loc l _ => 2 ^ (2 * l + 1)
      | .glob _ => 1
    | _ => 0

def footW (f : FuncId) (ops : Array Oper) (o : Oper) (s : St) : Nat :=
  optBit o.dst ||| listBits (movedTmps o.op.operands.toList (moves cfg f o)) |||
    match wantedA ops o s.tmps with
    | some true => match acls cfg f o (vals s.tmps o.op.operands.toList (moves cfg f o)) with
      | .loc l true => 2 ^ (2 * l + 1)
      | .glob true => 1
      | _ => 0
    | _ => 0

/-- The operations that must stand ahead of one, bit by bit. -/
def ancBits (anc : List Nat) : List Edge → Nat
  | [] => 0
  | e :: r => (if Region.binds .any e then 2 ^ e.on ||| anc.getD e.on 0 else 0) ||| ancBits anc r

def edgesDown (i : Nat) : List Edge → Bool
  | [] => true
  | e :: r => (!Region.binds .any e || e.on < i) && edgesDown i r

/-- Does an operation get along with the earlier ones that need not stand ahead of it? -/
def apartFrom (anc R W : Nat) : Nat → List (Nat × Nat) → Bool
  | _, [] => true
  | j, (r, w) :: l => (anc.testBit j || ((w &&& (R ||| W)) ||| (r &&& W)) == 0) && apartFrom anc R W (j + 1) l

/-- A region whose order is drawn: in the text's order, if no other one can be told from it. -/
def adraw (f : FuncId) (ops : Array Oper) : List Oper → (i : Nat) → (ancs : List Nat) → (foot : List (Nat × Nat)) → St → Option St
  | [], _, _, _, s => some s
  | o :: r, i, ancs, foot, s =>
    let anc := ancBits ancs o.after.toList
    let R := footR cfg f ops o s
    let W := footW cfg f ops o s
    if edgesDown i o.after.toList = true ∧ apartFrom anc R W 0 foot = true then
      match astep P cfg call f ops o s with
      | some (.next s') => adraw f ops r (i + 1) (ancs ++ [anc]) (foot ++ [(R, W)]) s'
      | _ => none
    else none

def maskTmps (m : Nat) : Nat → List AV → List AV
  | _, [] => []
  | i, v :: r => (if m.testBit i then v else .any) :: maskTmps m (i + 1) r

def maskLh (m : Nat) : Nat → List (Option LCell) → List (Option LCell)
  | _, [] => []
  | i, c :: r => (if m.testBit i then c else none) :: maskLh m (i + 1) r

/-- No pointer into a variable that is let go. -/
def lpIn (m : Nat) : AV → Bool
  | .lp t _ _ => m.testBit t
  | _ => true

mutual
/-- No pointer to a block from n on. -/
def AV.low (n : Nat) : AV → Bool
  | .any => true
  | .val _ => true
  | .slice _ rows _ => lowss n rows
  | .ref cs => lows n cs
  | .ptr id _ => Nat.blt id n
  | .lp _ _ _ => true
  | .func _ a b => lows n a && lows n b
  | .iface _ v => v.low n
  | .agg cs => lows n cs
  | .tuple vs => lows n vs
def lows (n : Nat) : List AV → Bool
  | [] => true
  | a :: l => a.low n && lows n l
def lowss (n : Nat) : List (List AV) → Bool
  | [] => true
  | a :: l => lows n a && lowss n l
end

def Out.low (n : Nat) : Out → Bool
  | .ret v => v.low n
  | .panic v => v.low n

def lowL (n : Nat) : List (Option LCell) → Bool
  | [] => true
  | none :: l => lowL n l
  | some (_, cs) :: l => lows n cs && lowL n l

def lowD (n : Nat) : List ADef → Bool
  | [] => true
  | d :: l => lows n d.args && lowD n l

def lowRM (n : Nat) : RM → Bool
  | .panicking v _ => v.low n
  | _ => true

def lowSt (n : Nat) (s : St) : Bool := lows n s.tmps && (lowL n s.lh && (lowD n s.g.defers && (lowRM n s.g.rm && lowss n (s.g.H.take n))))

/-- The blocks that a frame made are let go, where nothing that is left points to them. -/
def cutSt (s : St) : St :=
  match Nat.ble s.g.H.length s.g.base with
  | true => s
  | false => match lowSt s.g.base s with
    | true => { s with g := { s.g with H := s.g.H.take s.g.base } }
    | false => s

/-- Loops at whose head blocks are let go bear this bit. -/
def cutBit : Nat := 1000

/-- At a loop's head: what is not alive is forgotten. -/
def maskSt (live : Option Nat) (s : St) : Option St :=
  match live with
  | none => some s
  | some m => if (maskTmps m 0 s.tmps).all (lpIn m) = true then match m.testBit cutBit with
      | true => some (cutSt { s with tmps := maskTmps m 0 s.tmps, lh := maskLh m 0 s.lh })
      | false => some { s with tmps := maskTmps m 0 s.tmps, lh := maskLh m 0 s.lh }
    else none

def liveAt (l : List (Nat × Nat)) (b : Nat) : Option Nat :=
  match l with
  | [] => none
  | (k, m) :: r => if k = b then some m else liveAt r b

/-- A loop's rounds. -/
def aloop (live : Option Nat) (body : St → Option (AX × St)) : Nat → St → Option (AX × St)
  | 0, _ => none
  | n + 1, s => match maskSt live s with
    | none => none
    | some s => match body s with
      | some (.normal, s') => aloop live body n s'
      | r => r

/-- Where code goes on: the number of its first region. -/
def codeKey : Code → Nat
  | .region id _ _ => 1000000 + id
  | .seq a _ => codeKey a
  | _ => 999999

def acode (k : Nat) (f : FuncId) : (b : Nat) → Code → St → Option (AX × St)
  | _, .skip, s => some (.normal, s)
  | _, .region _ ops false, s => aops P cfg call f ops (List.range ops.size) s
  | _, .region _ ops true, s => match adraw P cfg call f ops ops.toList 0 [] [] s with
    | some s' => some (.normal, s')
    | none => none
  | b, .seq x y, s => match acode k f b x s with
    | some (.normal, s') => match maskSt (liveAt (cfg f).live (codeKey y)) s' with
      | some s2 => acode k f b y s2
      | none => none
    | r => r
  | b, .cond c x y, s => match aeval s.tmps c with
    | .val (.bool true) => acode k f b x s
    | .val (.bool false) => acode k f b y s
    | _ => none
  | _, .block id x, s => match acode k f id x s with
    | some (.exit id', s') => if id' = id then some (.normal, s') else some (.exit id', s')
    | r => r
  | b, .loop x, s => aloop (liveAt (cfg f).live b) (acode k f b x) k s
  | _, .exit id, s => some (.exit id, s)
  | _, .ret, s => some (.ret, s)
  | b, .scope x, s => acode k f b x s
  | _, .label _, s => some (.normal, s)
  | _, _, _ => none

/-- A panic that was recovered is over. -/
def settleA : RM → RM
  | .panicking _ true => .returning
  | m => m

/-- The deferred calls, one behind the other; the frame's mode. -/
def adefers : List ADef → RM → Heap → Option (RM × Heap)
  | [], m, H => some (m, H)
  | d :: r, m, H => match call d.f d.args m H with
    | some ⟨.ret _, m', H'⟩ => adefers r (settleA m') H'
    | some ⟨.panic v, _, H'⟩ => adefers r (.panicking v false) H'
    | none => none

def aresult (s : St) (H : Heap) : ResultVar → Option AV
  | .tmp t => if (s.tmps.getD t .any).isLp then none else some (s.tmps.getD t .any)
  | .cell a t => match s.tmps.getD a .any with
    | .ref cs => readCells P t cs 0
    | .ptr id o => match H[id]? with
      | some cs => readCells P t cs o
      | none => none
    | .lp l g o => match s.lh[l]? with
      | some (some (g', cs)) => if g = g' then readCells P t cs o else none
      | _ => none
    | _ => none

def aresults (s : St) (H : Heap) : List ResultVar → Option (List AV)
  | [] => some []
  | r :: rs => match aresult P s H r, aresults s H rs with
    | some v, some l => some (v :: l)
    | _, _ => none

def resultOf : List AV → AV
  | [v] => v
  | l => .tuple (l.map AV.dis)

/-- The end of a frame. -/
def afinish (fn : Func) (s : St) (m : RM) : Option CRes :=
  match s.g.rm with
  | .none => match adefers call s.g.defers m s.g.H with
    | some (.returning, H) => match aresults P s H fn.results.toList with
      | some l => some ⟨.ret (resultOf l), .none, H⟩
      | none => none
    | some (.panicking v false, H) => some ⟨.panic v, .none, H⟩
    | _ => none
  | rm => if s.g.defers.isEmpty then match m with
      | .returning => match aresults P s s.g.H fn.results.toList with
        | some l => some ⟨.ret (resultOf l), rm, s.g.H⟩
        | none => none
      | .panicking v false => some ⟨.panic v, rm, s.g.H⟩
      | _ => none
    else none

def abody (k : Nat) (f : FuncId) (fn : Func) (c : Code) (args : List AV) (rm : RM) (H : Heap) : Option CRes :=
  match acode P cfg call k f 0 c ⟨args ++ List.replicate (fn.ntmps - args.length) (.val undef), List.replicate fn.ntmps none, ⟨H, [], rm, H.length⟩⟩ with
  | some (.normal, s) => afinish P call fn s .returning
  | some (.ret, s) => afinish P call fn s .returning
  | some (.panic v, s) => afinish P call fn s (.panicking v false)
  | _ => none

end

/-- A heap is cut back to what it was, where nothing that is left points beyond. -/
def cutRes (n : Nat) (r : CRes) : CRes :=
  match Nat.ble r.H.length n with
  | true => r
  | false => match r.out.low n && lowss n (r.H.take n) with
    | true => ⟨r.out, r.rm, r.H.take n⟩
    | false => r

def cutRm (rm : RM) (n : Nat) (r : CRes) : CRes :=
  match rm with
  | .none => cutRes n r
  | _ => r

/-- A slice that a function answers, told by its type's row, also where it is nil. -/
def normV (P : Program) (t : TypeId) (v : AV) : AV :=
  match v with
  | .slice sz rows own => match P.underlying t with
    | some (.slice e) => match size? P e with
      | some n => match decide (sz = n) with
        | true => .slice sz rows .no
        | false => match rows with
          | [] => .slice n [] .no
          | r :: l => .slice sz (r :: l) own
      | none => .slice sz rows own
    | _ => .slice sz rows own
  | v => v
def normL (P : Program) : List TypeId → List AV → List AV
  | t :: ts, v :: vs => normV P t v :: normL P ts vs
  | _, vs => vs
def normO (P : Program) (ts : List TypeId) (o : Out) : Out :=
  match o with
  | .panic v => .panic v
  | .ret v => match ts with
    | [t] => .ret (normV P t v)
    | ts => match v with
      | .tuple vs => .ret (.tuple (normL P ts vs))
      | v => .ret v
def normRes (P : Program) (b : Bool) (ts : List TypeId) (r : CRes) : CRes :=
  match b with
  | true => ⟨normO P ts r.out, r.rm, r.H⟩
  | false => r

/-- A contract that stands in place of a function's code. -/
abbrev Ext := FuncId → Option (List AV → Heap → Option (Out × Heap))

def acall (P : Program) (cfg : FuncId → FCfg) (ext : Ext) : Nat → FuncId → List AV → RM → Heap → Option CRes
  | 0 => fun _ _ _ _ => none
  | k + 1 => fun f args rm H =>
    match ext f with
    | some e => match rm with
      | .none => match e args H with
        | some (out, H') => some ⟨out, .none, H'⟩
        | none => none
      | _ => none
    | none => match P.funcs[f]? with
      | none => none
      | some fn => match fn.body with
        | none => none
        | some c => (abody P cfg (acall P cfg ext k) k f fn c args rm H).map fun r => normRes P (cfg f).norm fn.resultTypes.toList (cutRm rm H.length r)

end Go.Eng
