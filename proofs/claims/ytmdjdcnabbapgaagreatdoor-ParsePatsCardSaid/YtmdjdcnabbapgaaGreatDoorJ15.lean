/- Texts of this proof folded into one: P4 Z5 R0 G1 G2 G3 G4 G5 G6 G7 G8 G9 G10 TD R1 G12 U1 Z4. -/
import Derived.Test.YtmdjdcnabbapgaaGreatDoorJ7
import Derived.Lib.Join
import Derived.Test.YtmdjdcnabbapgaaGreatDoorJ14
import Derived.Test.YtmdjdcnabbapgaaGreatDoorJ6
import Derived.Test.YtmdjdcnabbapgaaGreatDoorJ12
section
/- LEX, plain: more of texts in pieces: places, joined tokens. -/
set_option linter.unusedVariables false
set_option linter.unusedSimpArgs false
namespace Go.Lx
variable {res : T → Bool}
theorem Pieces.places {l : T} {a : Nat} {ts : List Tok} (h : Pieces res l a ts) : ∀ t ∈ ts, a ≤ t.at_ ∧ t.at_ + t.text.length ≤ a + l.length := by
  induction h with
  | nil _ => intro t h; cases h
  | @cons b x l a k v ts hb h1 hh ho _ ih =>
    intro t ht
    rw [List.mem_cons] at ht
    rcases ht with rfl | ht
    · simp; omega
    · have := ih t ht
      simp; omega
theorem join_cons2 (x y : T) (r : List T) : Lib.join (x :: y :: r) [32] = x ++ (32 :: Lib.join (y :: r) [32]) := by
  simp [Lib.join, List.intercalate, List.intersperse]
theorem Pieces.join {l : T} {a : Nat} {ts : List Tok} (h : Pieces res l a ts) : ∀ b, ∃ us, Pieces res (Lib.join (ts.map (·.text)) [32]) b us ∧ us.map key = ts.map key := by
  induction h with
  | nil _ => intro b; exact ⟨[], .nil (by rw [List.map_nil]; exact Blk.nil), rfl⟩
  | @cons b x l a k v ts hb h1 hh ho _ ih =>
    intro c
    cases ts with
    | nil =>
      have hc : Ctx l [] := .inl rfl
      have hht := head_tok (z := []) h1 hh
      have := Pieces.cons (res := res) (b := []) (a := c) Blk.nil (one_ctx h1 hc) hht.1 (opens_ctx hht.2 ho hc) (Pieces.nil Blk.nil)
      refine ⟨[⟨k, x, v, c + ([] : T).length⟩], ?_, ?_⟩
      · simpa [Lib.join, List.intercalate] using this
      · simp [key]
    | cons u us =>
      simp only [List.map_cons] at ih ⊢
      rw [join_cons2]
      obtain ⟨vs, q1, q2⟩ := ih (c + x.length + 1)
      have q3 : Pieces res (32 :: Lib.join (u.text :: us.map (·.text)) [32]) (c + x.length) vs := Pieces.blk (b := [32]) (Blk.cons (by decide) Blk.nil) q1
      have hc : Ctx l (32 :: Lib.join (u.text :: us.map (·.text)) [32]) := .inl rfl
      have hht := head_tok (z := 32 :: Lib.join (u.text :: us.map (·.text)) [32]) h1 hh
      have := Pieces.cons (res := res) (b := []) (a := c) Blk.nil (one_ctx h1 hc) hht.1 (opens_ctx hht.2 ho hc) (by simpa using q3)
      exact ⟨_, by simpa using this, by simp [key, q2]⟩
theorem one_err {l : T} {e : Nat} (h : one res l = .error e) : e ≠ 0 := by
  cases l with
  | nil => simp [one] at h; omega
  | cons c r =>
    unfold one at h
    simp only at h
    repeat' split at h
    all_goals (first | (injection h with h; omega) | cases h)
theorem lx_err : ∀ {l : T} {a cnt p e : Nat}, lx res l a cnt = .error (p, e) → e ≠ 0 ∧ p ≤ a + l.length := by
  intro l
  induction h : l.length using Nat.strongRecOn generalizing l with
  | ind m ih =>
    intro a cnt p e hl
    have hsb := skp_bound (l := l)
    rw [lx_eq] at hl
    split at hl
    · injection hl with hl; injection hl with h1 h2; omega
    · split at hl
      · cases hl
      · rename_i c r hd
        have hlen := congrArg List.length hd
        simp at hlen
        split at hl
        · rename_i e' h1
          injection hl with hl; injection hl with h2 h3
          have := one_err h1
          subst h3; exact ⟨this, by omega⟩
        · rename_i k n v h1
          split at hl
          · injection hl with hl; injection hl with h1 h2; omega
          · obtain ⟨b1, b2, _⟩ := one_bound h1
            simp only [List.length_cons] at b2
            cases hx : lx res (r.drop (n - 1)) (a + (skp l).1 + n) (cnt + 1) with
            | ok us => rw [hx] at hl; cases hl
            | error q =>
              obtain ⟨q1, q2⟩ := q
              rw [hx] at hl
              injection hl with hl; injection hl with h2 h3
              subst h2 h3
              have := ih (r.drop (n - 1)).length (by simp; omega) rfl hx
              simp at this; exact ⟨this.1, by omega⟩
end Go.Lx
end

section
/- LEX: the laws without the document's answer: LexCovers, LexBlanks, LexSplits, LexBack -/
open Go Go.Eng Go.Lx
namespace Go.Proofs
set_option linter.unusedVariables false
set_option linter.unusedSimpArgs false
set_option maxRecDepth 100000
theorem lexA_ok {s : ByteArray} {ts : List Tok} (h : lexA s = .ok ts) : s.size ≤ 4096 ∧ Pieces resP (tx s) 0 ts ∧ ts.length ≤ 1024 := by
  unfold lexA at h
  split at h
  · cases h
  · obtain ⟨h1, h2⟩ := lx_pieces (by omega) h
    exact ⟨by omega, h1, by omega⟩
theorem lexA_err {s : ByteArray} {p e : Nat} (h : lexA s = .error (p, e)) : e ≠ 0 ∧ p ≤ s.size := by
  unfold lexA at h
  split at h
  · injection h with h; injection h with h1 h2; omega
  · have := lx_err h
    rw [tx_len] at this; exact ⟨this.1, by omega⟩
section
variable {QD : List (St → Prop)} {QR : CRes → Prop}
theorem wp_Lex {s : ByteArray} {K : List (List AV) → Int → Int → KT} (hok : ∀ ts, lexA s = .ok ts → (K (ts.map tokRow) 0 0).wp Pg cfg0 evp QD QR) (herr : ∀ p e, lexA s = .error (p, e) → (K [] p e).wp Pg cfg0 evp QD QR) :
    (KT.exR fun l => .exI fun i => .exI fun i1 => .call f_lex_Lex [vS s] .none [] ⟨.ret (.tuple [.slice 4 l .no, vI i, vI i1]), .none, []⟩ (K l i i1)).wp Pg cfg0 evp QD QR := by
  have h := c_Lex s
  cases hx : lexA s with
  | ok ts => rw [hx] at h; exact ⟨_, _, _, h, hok ts hx⟩
  | error e => obtain ⟨p, e⟩ := e; rw [hx] at h; exact ⟨_, _, _, h, herr p e hx⟩
end
theorem ne0 {e : Nat} (h : e ≠ 0) : ((e : Int) != 0) = true := by simp; omega
end Go.Proofs
end

section
/- PARSE: contracts in a heap of one block hold where there are more -/
set_option linter.unusedVariables false
set_option linter.unusedSimpArgs false
open Go Go.Eng
namespace Go.Eng
theorem PExt.extR {g : PExt} (hg : ∀ f e, g f = some e → ∀ args v, e args = some v → ∀ ρ : Nat → Nat, e (args.map (AV.ren ρ)) = some (v.ren ρ)) {ρ : Nat → Nat} {n N : Nat} {F : Heap} : ExtR ρ n N F g.ext := by
  intro f e he args H out H' heq K hK
  unfold PExt.ext at he
  rw [Option.map_eq_some_iff] at he
  obtain ⟨e0, he0, rfl⟩ := he
  rw [Option.map_eq_some_iff] at heq
  obtain ⟨v, hv, heq⟩ := heq
  injection heq with e1 e2
  subst e1 e2
  exact ⟨K, by simp only [hg f e0 he0 args v hv ρ, Option.map_some, renOut], hK⟩
def rho1 (k : Nat) (i : Nat) : Nat := if i = 0 then 0 else i + k
/-- Nothing in it is turned by other names of blocks, but for the first. -/
def Inv1 (l : List AV) : Prop := ∀ k, l.map (AV.ren (rho1 k)) = l
theorem ev_lift1 {P : Program} {cfg : FuncId → FCfg} {g : PExt} (hg : ∀ f e, g f = some e → ∀ args v, e args = some v → ∀ ρ : Nat → Nat, e (args.map (AV.ren ρ)) = some (v.ren ρ)) {f : FuncId} {args : List AV} {o : Out} {B B' : List AV} {K : Heap} (h : ev P cfg g.ext f args .none [B] = some ⟨o, .none, [B']⟩)
    (ha : Inv1 args) (hB : Inv1 B) (hB' : Inv1 B') (ho : ∀ k, renOut (rho1 k) o = o) (hk : lowss (1 + K.length) K = true) : ev P cfg g.ext f args .none (B :: K) = some ⟨o, .none, B' :: K⟩ := by
  have hf : Fr (rho1 K.length) 1 (1 + K.length) (B :: K) := ⟨fun i hi => by simp only [rho1, if_pos (show i = 0 by omega)]; omega, fun i hi => by simp only [rho1]; rw [if_neg (by omega)]; omega, fun i j hi hj _ => by omega, fun j cs hj hlt hne => by
    rw [lowss_all, List.all_eq_true] at hk
    cases j with
    | zero => exact absurd rfl (hne 0 (by omega))
    | succ j => exact hk cs (List.mem_of_getElem? (by simpa using hj))⟩
  obtain ⟨r, h1, h2⟩ := ev_ren hf (PExt.extR hg) f args .none [B] _ h (B :: K) ⟨by simp, by simp; omega, fun i => by
    cases i with
    | zero => simp [rho1, hB K.length]
    | succ i => simp only [rho1]; rw [if_neg (by omega), List.getElem?_eq_none (by simp; omega), List.getElem?_eq_none (by simp)]; rfl, fun j hj _ => rfl⟩
  rw [ha K.length] at h1
  have e0 : renRM (rho1 K.length) .none = .none := rfl
  rw [e0] at h1
  rw [h1]
  obtain ⟨o', rm', H'⟩ := r
  have e1 := h2.o
  have e2 := h2.rm
  simp only [ho] at e1 e2
  have e3 : H' = B' :: K := by
    apply List.ext_getElem?
    intro j
    have hl := h2.H.len
    simp at hl
    cases j with
    | zero =>
      have := h2.H.im 0
      simp only [rho1, if_true, List.getElem?_cons_zero, Option.map_some] at this
      have e := hB' K.length
      rw [this, e]; rfl
    | succ j =>
      rcases Nat.lt_or_ge (j + 1) (1 + K.length) with hj | hj
      · rw [h2.H.off (j + 1) hj fun i hi => by simp [rho1, show i = 0 by omega]]; simp
      · rw [List.getElem?_eq_none (by omega), List.getElem?_eq_none (by simp; omega)]
  rw [e1, e2, e3]; rfl
end Go.Eng
end

section
/- PARSE, plain: what tokens are as types, patterns, expressions (chapter 5), by fuel; z: the place of the text's end -/
set_option linter.unusedVariables false
set_option linter.unusedSimpArgs false
namespace Go.Pa
open Go.Lx (T Tok)
inductive Ty where
  | var (n : T)
  | con (p : List T)
  | fn (a b : Ty)
  | pair (a b : Ty)
  deriving Inhabited
inductive Pat where
  | any
  | var (n : T)
  | int (n : Nat)
  | tru
  | fls
  | unit
  | pair (a b : Pat)
  | con (p : List T)
  | conA (p : List T) (a : Pat)
  deriving Inhabited
mutual
inductive Exp where
  | int (n : Nat)
  | tru
  | fls
  | unit
  | var (p : List T)
  | con (p : List T)
  | fn (p : Pat) (x : Exp)
  | app (f x : Exp)
  | pair (a b : Exp)
  | lets (l : List Dec) (x : Exp)
  | ite (c a b : Exp)
  | cases (x : Exp) (l : List (Pat × Exp))
  | bin (op : Nat) (a b : Exp)
  | ann (x : Exp) (t : Ty)
inductive Dec where
  | val (at_ : Nat) (n : T) (t : Option Ty) (x : Exp)
  | func (at_ : Nat) (n : T) (ps : List T) (t : Option Ty) (x : Exp)
end
instance : Inhabited Exp := ⟨.unit⟩
instance : Inhabited Dec := ⟨.val 0 [] none .unit⟩
/-- What a rule comes to: a thing and the tokens behind it; or an error and its place. -/
inductive Res (α : Type) where
  | ok (a : α) (r : List Tok)
  | no (e at_ : Nat)
def Res.bind {α β : Type} (x : Res α) (f : α → List Tok → Res β) : Res β :=
  match x with
  | .ok a r => f a r
  | .no e p => .no e p
/-- The place of the token that stands next. -/
def pl (z : Nat) : List Tok → Nat
  | [] => z
  | t :: _ => t.at_
/-- Is the next one this word or mark? -/
def isW (w : T) : List Tok → Bool
  | [] => false
  | t :: _ => (t.kind == 3 || t.kind == 6) && decide (t.text = w)
/-- Is it of this kind? -/
def ofK (k : Nat) : List Tok → Bool
  | [] => false
  | t :: _ => t.kind == k
def txt : List Tok → T
  | [] => []
  | t :: _ => t.text
def num : List Tok → Nat
  | [] => 0
  | t :: _ => t.n
def need (z : Nat) (w : T) (l : List Tok) : Res Unit := if isW w l then .ok () l.tail else .no 11 (pl z l)
def taken (z k : Nat) : List Tok → Res T
  | [] => .no 11 z
  | t :: r => if t.kind == k then .ok t.text r else .no 11 t.at_
def wDot : T := [46]
def wArrow : T := [45, 62]
def wStar : T := [42]
def wOpen : T := [40]
def wClose : T := [41]
def wComma : T := [44]
def wColon : T := [58]
def wEq : T := [61]
def wLt : T := [60]
def wPlus : T := [43]
def wMinus : T := [45]
def wSlash : T := [47]
def wBar : T := [124]
def wDo : T := [61, 62]
def wAny : T := [95]
def wInt : T := [105, 110, 116]
def wBool : T := [98, 111, 111, 108]
def wUnit : T := [117, 110, 105, 116]
def wTrue : T := [116, 114, 117, 101]
def wFalse : T := [102, 97, 108, 115, 101]
def wFn : T := [102, 110]
def wIf : T := [105, 102]
def wThen : T := [116, 104, 101, 110]
def wElse : T := [101, 108, 115, 101]
def wLet : T := [108, 101, 116]
def wIn : T := [105, 110]
def wEnd : T := [101, 110, 100]
def wCase : T := [99, 97, 115, 101]
def wOf : T := [111, 102]
def wVal : T := [118, 97, 108]
def wFun : T := [102, 117, 110]
/-- A path: p was read, it began at a place. -/
def path (z : Nat) (lower upper : Bool) (start : Nat) (p : List T) : List Tok → Res (List T × Bool)
  | [] => .no 11 z
  | t :: l =>
    if t.kind == 2 || (t.kind == 1 && lower) then
      if 8 < p.length + 1 then .no 3 start
      else if t.kind == 1 then .ok (p ++ [t.text], true) l
      else match l with
        | [] => if upper then .ok (p ++ [t.text], false) [] else .no 11 z
        | d :: l' => if isW wDot [d] then path z lower upper start (p ++ [t.text]) l'
            else if upper then .ok (p ++ [t.text], false) (d :: l') else .no 11 d.at_
    else .no 11 t.at_
/-! ### types -/
mutual
def pTy (z : Nat) : Nat → List Tok → Res Ty
  | 0, _ => .no 0 0
  | n + 1, l => (pPair z n l).bind fun t r => if isW wArrow r then (pTy z n r.tail).bind fun u r => .ok (.fn t u) r else .ok t r
def pPair (z : Nat) : Nat → List Tok → Res Ty
  | 0, _ => .no 0 0
  | n + 1, l => (pAty z n l).bind fun t r => pPairs z n t r
def pPairs (z : Nat) : Nat → Ty → List Tok → Res Ty
  | 0, _, _ => .no 0 0
  | n + 1, t, l => if isW wStar l then (pAty z n l.tail).bind fun u r => pPairs z n (.pair t u) r else .ok t l
def pAty (z : Nat) : Nat → List Tok → Res Ty
  | 0, _ => .no 0 0
  | n + 1, l =>
    if isW wInt l then .ok (.con [wInt]) l.tail
    else if isW wBool l then .ok (.con [wBool]) l.tail
    else if isW wUnit l then .ok (.con [wUnit]) l.tail
    else if ofK 5 l then .ok (.var ((txt l).drop 1)) l.tail
    else if isW wOpen l then (pTy z n l.tail).bind fun t r => (need z wClose r).bind fun _ r => .ok t r
    else (path z true false (pl z l) [] l).bind fun x r => .ok (.con x.1) r
end
/-! ### patterns -/
def begP (l : List Tok) : Bool := ofK 1 l || (ofK 2 l || (ofK 4 l || (isW wAny l || (isW wTrue l || (isW wFalse l || isW wOpen l)))))
mutual
def pPat (z : Nat) : Nat → List Tok → Res Pat
  | 0, _ => .no 0 0
  | n + 1, l =>
    if ofK 2 l then (path z false true (pl z l) [] l).bind fun x r => if begP r then (pAp z n r).bind fun a r => .ok (.conA x.1 a) r else .ok (.con x.1) r
    else pAp z n l
def pAp (z : Nat) : Nat → List Tok → Res Pat
  | 0, _ => .no 0 0
  | n + 1, l =>
    if isW wAny l then .ok .any l.tail
    else if isW wTrue l then .ok .tru l.tail
    else if isW wFalse l then .ok .fls l.tail
    else if ofK 4 l then .ok (.int (num l)) l.tail
    else if ofK 1 l then .ok (.var (txt l)) l.tail
    else if ofK 2 l then (path z false true (pl z l) [] l).bind fun x r => .ok (.con x.1) r
    else (need z wOpen l).bind fun _ l =>
      if isW wClose l then .ok .unit l.tail
      else (pPat z n l).bind fun p r =>
        if isW wComma r then (pPat z n r.tail).bind fun q r => (need z wClose r).bind fun _ r => .ok (.pair p q) r
        else (need z wClose r).bind fun _ r => .ok p r
end
/-! ### expressions -/
def begE (l : List Tok) : Bool := ofK 4 l || (ofK 1 l || (ofK 2 l || (isW wTrue l || (isW wFalse l || (isW wOpen l || (isW wLet l || isW wCase l))))))
/-- The operator of a level that stands next. -/
def opAt (lv : Nat) (l : List Tok) : Nat :=
  match lv with
  | 0 => if isW wEq l then 5 else if isW wLt l then 6 else 0
  | 1 => if isW wPlus l then 1 else if isW wMinus l then 2 else 0
  | _ => if isW wStar l then 3 else if isW wSlash l then 4 else 0
def params (z : Nat) : List T → List Tok → List T × List Tok
  | ps, [] => (ps, [])
  | ps, t :: l => if t.kind == 1 then params z (ps ++ [t.text]) l else (ps, t :: l)
mutual
def pExp (z : Nat) : Nat → List Tok → Res Exp
  | 0, _ => .no 0 0
  | n + 1, l =>
    if isW wFn l then (pPat z n l.tail).bind fun p r => (need z wDo r).bind fun _ r => (pExp z n r).bind fun x r => .ok (.fn p x) r
    else if isW wIf l then (pExp z n l.tail).bind fun c r => (need z wThen r).bind fun _ r => (pExp z n r).bind fun a r => (need z wElse r).bind fun _ r => (pExp z n r).bind fun b r => .ok (.ite c a b) r
    else pBin z n 0 l
def pBin (z : Nat) : Nat → Nat → List Tok → Res Exp
  | 0, _, _ => .no 0 0
  | n + 1, lv, l => if lv == 3 then pApp z n l else (pBin z n (lv + 1) l).bind fun x r => pOps z n lv x r
def pOps (z : Nat) : Nat → Nat → Exp → List Tok → Res Exp
  | 0, _, _, _ => .no 0 0
  | n + 1, lv, x, l =>
    if opAt lv l == 0 then .ok x l
    else (pBin z n (lv + 1) l.tail).bind fun y r => if lv == 0 then .ok (.bin (opAt lv l) x y) r else pOps z n lv (.bin (opAt lv l) x y) r
def pApp (z : Nat) : Nat → List Tok → Res Exp
  | 0, _ => .no 0 0
  | n + 1, l => (pAtom z n l).bind fun x r => pApps z n x r
def pApps (z : Nat) : Nat → Exp → List Tok → Res Exp
  | 0, _, _ => .no 0 0
  | n + 1, x, l => if begE l then (pAtom z n l).bind fun y r => pApps z n (.app x y) r else .ok x l
def pAtom (z : Nat) : Nat → List Tok → Res Exp
  | 0, _ => .no 0 0
  | n + 1, l =>
    if ofK 4 l then .ok (.int (num l)) l.tail
    else if isW wLet l then (pDecs z n [] l.tail).bind fun ds r => (need z wIn r).bind fun _ r => (pExp z n r).bind fun x r => (need z wEnd r).bind fun _ r => .ok (.lets ds x) r
    else if isW wCase l then (pExp z n l.tail).bind fun x r => (need z wOf r).bind fun _ r => (pCases z n [] (if isW wBar r then r.tail else r)).bind fun bs r => .ok (.cases x bs) r
    else if isW wTrue l then .ok .tru l.tail
    else if isW wFalse l then .ok .fls l.tail
    else if ofK 1 l || ofK 2 l then (path z true true (pl z l) [] l).bind fun x r => .ok (if x.2 then .var x.1 else .con x.1) r
    else (need z wOpen l).bind fun _ l =>
      if isW wClose l then .ok .unit l.tail
      else (pExp z n l).bind fun x r =>
        if isW wComma r then (pExp z n r.tail).bind fun y r => (need z wClose r).bind fun _ r => .ok (.pair x y) r
        else if isW wColon r then (pTy z n r.tail).bind fun t r => (need z wClose r).bind fun _ r => .ok (.ann x t) r
        else (need z wClose r).bind fun _ r => .ok x r
def pCases (z : Nat) : Nat → List (Pat × Exp) → List Tok → Res (List (Pat × Exp))
  | 0, _, _ => .no 0 0
  | n + 1, bs, l => (pPat z n l).bind fun p r => (need z wDo r).bind fun _ r => (pExp z n r).bind fun x r =>
      if isW wBar r then pCases z n (bs ++ [(p, x)]) r.tail else (need z wEnd r).bind fun _ r => .ok (bs ++ [(p, x)]) r
def pDecs (z : Nat) : Nat → List Dec → List Tok → Res (List Dec)
  | 0, _, _ => .no 0 0
  | n + 1, ds, l => if isW wVal l || isW wFun l then (pDec z n l).bind fun d r => pDecs z n (ds ++ [d]) r else .ok ds l
def pDec (z : Nat) : Nat → List Tok → Res Dec
  | 0, _ => .no 0 0
  | n + 1, l =>
    if isW wVal l then (taken z 1 l.tail).bind fun nm r => (pBody z n r).bind fun b r => .ok (.val (pl z l) nm b.1 b.2) r
    else (need z wFun l).bind fun _ r => (taken z 1 r).bind fun nm r => (taken z 1 r).bind fun p r => (pBody z n (params z [p] r).2).bind fun b r' => .ok (.func (pl z l) nm (params z [p] r).1 b.1 b.2) r'
def pBody (z : Nat) : Nat → List Tok → Res (Option Ty × Exp)
  | 0, _ => .no 0 0
  | n + 1, l =>
    if isW wColon l then (pTy z n l.tail).bind fun t r => (need z wEq r).bind fun _ r => (pExp z n r).bind fun x r => .ok (some t, x) r
    else (need z wEq l).bind fun _ r => (pExp z n r).bind fun x r => .ok (none, x) r
end
/-- A text's tokens that are just what a rule tells. -/
def whole {α : Type} (z : Nat) (x : Res α) : Except (Nat × Nat) α :=
  match x with
  | .no e p => .error (p, e)
  | .ok a [] => .ok a
  | .ok a (t :: _) => .error (t.at_, 11)
end Go.Pa
end

section
/- PARSE, plain: rules take tokens: what is left is less -/
set_option linter.unusedVariables false
set_option linter.unusedSimpArgs false
namespace Go.Pa
open Go.Lx (T Tok)
theorem bind_ok {α β : Type} {x : Res α} {f : α → List Tok → Res β} {b : β} {r : List Tok} : x.bind f = .ok b r ↔ ∃ a r1, x = .ok a r1 ∧ f a r1 = .ok b r := by
  cases x with
  | ok a r1 => exact ⟨fun h => ⟨a, r1, rfl, h⟩, fun ⟨_, _, e, h⟩ => (by cases e; exact h)⟩
  | no e p => exact ⟨fun h => (by cases h), fun ⟨_, _, e, _⟩ => (by cases e)⟩
theorem isW_len {w : T} {l : List Tok} (h : isW w l = true) : l.tail.length < l.length := by
  cases l with
  | nil => cases h
  | cons t l => simp
theorem ofK_len {k : Nat} {l : List Tok} (h : ofK k l = true) : l.tail.length < l.length := by
  cases l with
  | nil => cases h
  | cons t l => simp
theorem need_len {z : Nat} {w : T} {l r : List Tok} {u : Unit} (h : need z w l = .ok u r) : r.length < l.length := by
  unfold need at h
  split at h
  · rename_i hw; injection h with _ h; subst h; exact isW_len hw
  · cases h
theorem taken_len {z k : Nat} {l r : List Tok} {x : T} (h : taken z k l = .ok x r) : r.length < l.length := by
  cases l with
  | nil => cases h
  | cons t l =>
    simp only [taken] at h
    split at h
    · injection h with _ h; subst h; simp
    · cases h
theorem path_len {z : Nat} {lower upper : Bool} {start : Nat} : ∀ (k : Nat) {l r : List Tok} {p : List T} {x : List T × Bool}, l.length ≤ k → path z lower upper start p l = .ok x r → r.length < l.length := by
  intro k
  induction k with
  | zero => intro l r p x hk h; cases l with
    | nil => unfold path at h; cases h
    | cons t l => simp at hk
  | succ k ih =>
    intro l r p x hk h
    cases l with
    | nil => unfold path at h; cases h
    | cons t l =>
      unfold path at h
      split at h
      · split at h
        · cases h
        · split at h
          · injection h with _ h; subst h; simp
          · split at h
            · split at h
              · injection h with _ h; subst h; simp
              · cases h
            · rename_i d l'
              split at h
              · have := ih (by simp at hk; omega) h
                simp; omega
              · split at h
                · injection h with _ h; subst h; simp
                · cases h
      · cases h
theorem params_len : ∀ (l : List Tok) (ps : List T), (params 0 ps l).2.length ≤ l.length := by
  intro l
  induction l with
  | nil => intro ps; simp [params]
  | cons t l ih =>
    intro ps
    rw [params]
    split
    · have := ih (ps ++ [t.text]); simp; omega
    · simp
theorem params_z (z : Nat) : ∀ (l : List Tok) (ps : List T), params z ps l = params 0 ps l := by
  intro l
  induction l with
  | nil => intro ps; simp [params]
  | cons t l ih => intro ps; rw [params, params, ih]
/-- Types. -/
structure LenT (z n : Nat) : Prop where
  ty : ∀ {l r x}, pTy z n l = .ok x r → r.length < l.length
  pair : ∀ {l r x}, pPair z n l = .ok x r → r.length < l.length
  pairs : ∀ {t l r x}, pPairs z n t l = .ok x r → r.length ≤ l.length
  aty : ∀ {l r x}, pAty z n l = .ok x r → r.length < l.length
theorem lenT (z : Nat) : ∀ n, LenT z n := by
  intro n
  induction n with
  | zero => exact ⟨fun h => (by rw [pTy] at h; cases h), fun h => (by rw [pPair] at h; cases h), fun h => (by rw [pPairs] at h; cases h), fun h => (by rw [pAty] at h; cases h)⟩
  | succ n ih =>
    refine ⟨fun {l r x} h => ?_, fun {l r x} h => ?_, fun {t l r x} h => ?_, fun {l r x} h => ?_⟩
    · rw [pTy, bind_ok] at h
      obtain ⟨a, r1, h1, h⟩ := h
      have k1 := ih.pair h1
      split at h
      · rename_i hw
        have := isW_len hw
        obtain ⟨b, r2, h2, h⟩ := bind_ok.1 h
        injection h with _ h; subst h
        have := ih.ty h2; omega
      · injection h with _ h; subst h; exact k1
    · rw [pPair, bind_ok] at h
      obtain ⟨a, r1, h1, h⟩ := h
      have k1 := ih.aty h1
      have := ih.pairs h; omega
    · rw [pPairs] at h
      split at h
      · rename_i hw
        have := isW_len hw
        obtain ⟨b, r2, h2, h⟩ := bind_ok.1 h
        have := ih.aty h2
        have := ih.pairs h; omega
      · injection h with _ h; subst h; exact Nat.le_refl _
    · rw [pAty] at h
      split at h
      · rename_i hw; injection h with _ h; subst h; exact isW_len hw
      · split at h
        · rename_i hw; injection h with _ h; subst h; exact isW_len hw
        · split at h
          · rename_i hw; injection h with _ h; subst h; exact isW_len hw
          · split at h
            · rename_i hw; injection h with _ h; subst h; exact ofK_len hw
            · split at h
              · rename_i hw
                have := isW_len hw
                obtain ⟨b, r2, h2, h⟩ := bind_ok.1 h
                obtain ⟨u, r3, h3, h⟩ := bind_ok.1 h
                injection h with _ h; subst h
                have := ih.ty h2
                have := need_len h3; omega
              · obtain ⟨b, r2, h2, h⟩ := bind_ok.1 h
                injection h with _ h; subst h
                exact path_len _ (Nat.le_refl _) h2
end Go.Pa
end

section
/- PARSE, plain: what is left is less: patterns, expressions -/
set_option linter.unusedVariables false
set_option linter.unusedSimpArgs false
namespace Go.Pa
open Go.Lx (T Tok)
/-- What is left are fewer than k tokens. -/
def Sh {α : Type} (x : Res α) (k : Nat) : Prop := ∀ a r, x = .ok a r → r.length < k
theorem Sh.ok {α : Type} {a : α} {r : List Tok} {k : Nat} (h : r.length < k) : Sh (.ok a r) k := fun _ _ e => by injection e with _ e; subst e; exact h
theorem Sh.no {α : Type} {e p k : Nat} : Sh (.no e p : Res α) k := fun _ _ e => by cases e
theorem Sh.bind {α β : Type} {x : Res α} {f : α → List Tok → Res β} {j k : Nat} (h : Sh x j) (hf : ∀ a r, r.length < j → Sh (f a r) k) : Sh (x.bind f) k := fun b r e => by
  obtain ⟨a, r1, h1, h2⟩ := bind_ok.1 e
  exact hf a r1 (h a r1 h1) b r h2
theorem Sh.ite {α : Type} {c : Prop} [Decidable c] {x y : Res α} {k : Nat} (h1 : c → Sh x k) (h2 : ¬ c → Sh y k) : Sh (if c then x else y) k := by
  split
  · exact h1 ‹_›
  · exact h2 ‹_›
theorem Sh.need {z : Nat} {w : T} {l : List Tok} : Sh (need z w l) l.length := fun _ _ e => need_len e
theorem Sh.taken {z k : Nat} {l : List Tok} : Sh (taken z k l) l.length := fun _ _ e => taken_len e
theorem Sh.path {z : Nat} {a b : Bool} {s : Nat} {p : List T} {l : List Tok} : Sh (path z a b s p l) l.length := fun _ _ e => path_len _ (Nat.le_refl _) e
theorem Sh.ty {z n : Nat} {l : List Tok} : Sh (pTy z n l) l.length := fun _ _ e => (lenT z n).ty e
theorem tail_le (l : List Tok) : l.tail.length ≤ l.length := by cases l <;> simp
structure LenP (z n : Nat) : Prop where
  pat : ∀ {l}, Sh (pPat z n l) l.length
  ap : ∀ {l}, Sh (pAp z n l) l.length
theorem lenP (z : Nat) : ∀ n, LenP z n := by
  intro n
  induction n with
  | zero => exact ⟨fun {l} => (by rw [pPat]; exact Sh.no), fun {l} => (by rw [pAp]; exact Sh.no)⟩
  | succ n ih =>
    constructor
    · intro l
      rw [pPat]
      repeat' first
        | exact ih.ap
        | refine Sh.ite (fun hw => ?_) (fun hw => ?_)
        | refine Sh.bind Sh.path (fun a r h => ?_)
        | refine Sh.bind ih.ap (fun a r h => ?_)
        | (refine Sh.ok ?_; omega)
    · intro l
      have ht := tail_le l
      rw [pAp]
      repeat' first
        | (refine Sh.ite (fun hw => ?_) (fun hw => ?_))
        | (refine Sh.ok ?_; have := isW_len ‹_›; omega)
        | (refine Sh.ok ?_; have := ofK_len ‹_›; omega)
        | refine Sh.bind Sh.path (fun a r h => ?_)
        | refine Sh.bind Sh.need (fun a r h => ?_)
        | refine Sh.bind ih.pat (fun a r h => ?_)
        | (refine Sh.ok ?_; omega)
        | (refine Sh.ok ?_; rename_i r _ _; have := tail_le r; omega)
structure LenE (z n : Nat) : Prop where
  exp : ∀ {l}, Sh (pExp z n l) l.length
  bin : ∀ {lv l}, Sh (pBin z n lv l) l.length
  ops : ∀ {lv x l}, Sh (pOps z n lv x l) (l.length + 1)
  app : ∀ {l}, Sh (pApp z n l) l.length
  apps : ∀ {x l}, Sh (pApps z n x l) (l.length + 1)
  atom : ∀ {l}, Sh (pAtom z n l) l.length
  cases : ∀ {bs l}, Sh (pCases z n bs l) l.length
  decs : ∀ {ds l}, Sh (pDecs z n ds l) (l.length + 1)
  dec : ∀ {l}, Sh (pDec z n l) l.length
  body : ∀ {l}, Sh (pBody z n l) l.length
theorem opAt_len {lv : Nat} {l : List Tok} (h : ¬ (opAt lv l == 0) = true) : l.tail.length < l.length := by
  cases l with
  | nil => exfalso; apply h; unfold opAt; split <;> rfl
  | cons t l => simp
theorem begE_len {l : List Tok} (h : begE l = true) : l.tail.length < l.length := by
  cases l with
  | nil => cases h
  | cons t l => simp
theorem lenE (z : Nat) : ∀ n, LenE z n := by
  intro n
  induction n with
  | zero => exact ⟨fun {l} => (by rw [pExp]; exact Sh.no), fun {lv l} => (by rw [pBin]; exact Sh.no), fun {lv x l} => (by rw [pOps]; exact Sh.no), fun {l} => (by rw [pApp]; exact Sh.no), fun {x l} => (by rw [pApps]; exact Sh.no), fun {l} => (by rw [pAtom]; exact Sh.no), fun {bs l} => (by rw [pCases]; exact Sh.no), fun {ds l} => (by rw [pDecs]; exact Sh.no), fun {l} => (by rw [pDec]; exact Sh.no), fun {l} => (by rw [pBody]; exact Sh.no)⟩
  | succ n ih =>
    constructor
    · intro l
      have ht := tail_le l
      rw [pExp]
      refine Sh.ite (fun hw => ?_) (fun hw => Sh.ite (fun hw => ?_) (fun hw => fun a r e => ih.bin a r e))
      · have := isW_len hw
        exact Sh.bind (lenP z n).pat fun a r h => Sh.bind Sh.need fun a r h => Sh.bind ih.exp fun a r h => Sh.ok (by omega)
      · have := isW_len hw
        exact Sh.bind ih.exp fun a r h => Sh.bind Sh.need fun a r h => Sh.bind ih.exp fun a r h => Sh.bind Sh.need fun a r h => Sh.bind ih.exp fun a r h => Sh.ok (by omega)
    · intro lv l
      rw [pBin]
      refine Sh.ite (fun hw => fun a r e => ih.app a r e) (fun hw => ?_)
      exact Sh.bind ih.bin fun a r h => fun b r' e => by have := ih.ops b r' e; omega
    · intro lv x l
      rw [pOps]
      refine Sh.ite (fun hw => Sh.ok (by omega)) (fun hw => ?_)
      have := opAt_len hw
      exact Sh.bind ih.bin fun a r h => Sh.ite (fun _ => Sh.ok (by omega)) (fun _ => fun b r' e => by have := ih.ops b r' e; omega)
    · intro l
      rw [pApp]
      exact Sh.bind ih.atom fun a r h => fun b r' e => by have := ih.apps b r' e; omega
    · intro x l
      rw [pApps]
      refine Sh.ite (fun hw => ?_) (fun hw => Sh.ok (by omega))
      have := begE_len hw
      exact Sh.bind ih.atom fun a r h => fun b r' e => by have := ih.apps b r' e; omega
    · intro l
      have ht := tail_le l
      rw [pAtom]
      refine Sh.ite (fun hw => Sh.ok (ofK_len hw)) (fun _ => Sh.ite (fun hw => ?_) (fun _ => Sh.ite (fun hw => ?_) (fun _ => Sh.ite (fun hw => Sh.ok (isW_len hw)) (fun _ => Sh.ite (fun hw => Sh.ok (isW_len hw)) (fun _ => Sh.ite (fun hw => ?_) (fun _ => ?_))))))
      · have := isW_len hw
        exact Sh.bind ih.decs fun a r h => Sh.bind Sh.need fun a r h => Sh.bind ih.exp fun a r h => Sh.bind Sh.need fun a r h => Sh.ok (by omega)
      · have := isW_len hw
        refine Sh.bind ih.exp fun a r h => Sh.bind Sh.need fun a r h => Sh.bind (ih.cases) fun a r' h' => Sh.ok ?_
        have := tail_le r
        split at h' <;> omega
      · exact Sh.bind Sh.path fun a r h => Sh.ok (by omega)
      · refine Sh.bind Sh.need fun a r h => Sh.ite (fun hw => Sh.ok (by have := isW_len hw; omega)) (fun _ => Sh.bind ih.exp fun a r h => ?_)
        have := tail_le r
        refine Sh.ite (fun hw => Sh.bind ih.exp fun a r h => Sh.bind Sh.need fun a r h => Sh.ok (by omega)) (fun _ => Sh.ite (fun hw => Sh.bind Sh.ty fun a r h => Sh.bind Sh.need fun a r h => Sh.ok (by omega)) (fun _ => Sh.bind Sh.need fun a r h => Sh.ok (by omega)))
    · intro bs l
      rw [pCases]
      refine Sh.bind (lenP z n).pat fun a r h => Sh.bind Sh.need fun a r h => Sh.bind ih.exp fun a r h => ?_
      have := tail_le r
      exact Sh.ite (fun hw => fun b r' e => by have := ih.cases b r' e; omega) (fun _ => Sh.bind Sh.need fun a r h => Sh.ok (by omega))
    · intro ds l
      rw [pDecs]
      exact Sh.ite (fun hw => Sh.bind ih.dec fun a r h => fun b r' e => by have := ih.decs b r' e; omega) (fun _ => Sh.ok (by omega))
    · intro l
      have ht := tail_le l
      rw [pDec]
      refine Sh.ite (fun hw => ?_) (fun _ => ?_)
      · have := isW_len hw
        exact Sh.bind Sh.taken fun a r h => Sh.bind ih.body fun a r h => Sh.ok (by omega)
      · refine Sh.bind Sh.need fun a r h => Sh.bind Sh.taken fun a r h => Sh.bind Sh.taken fun a r h => ?_
        have := params_len r [a]
        rw [← params_z z] at this
        exact Sh.bind ih.body fun b r' h => Sh.ok (by omega)
    · intro l
      have ht := tail_le l
      rw [pBody]
      refine Sh.ite (fun hw => ?_) (fun _ => ?_)
      · have := isW_len hw
        exact Sh.bind Sh.ty fun a r h => Sh.bind Sh.need fun a r h => Sh.bind ih.exp fun a r h => Sh.ok (by omega)
      · exact Sh.bind Sh.need fun a r h => Sh.bind ih.exp fun a r h => Sh.ok (by omega)
end Go.Pa
end

section
/- PARSE, plain: more fuel changes nothing, where there is enough -/
set_option linter.unusedVariables false
set_option linter.unusedSimpArgs false
namespace Go.Pa
open Go.Lx (T Tok)
theorem Sh.pair {z n : Nat} {l : List Tok} : Sh (pPair z n l) l.length := fun _ _ e => (lenT z n).pair e
theorem Sh.aty {z n : Nat} {l : List Tok} : Sh (pAty z n l) l.length := fun _ _ e => (lenT z n).aty e
end Go.Pa
end

section
/- PARSE, plain: with tokens behind that can't go on (a closing parenthesis, a comma) a rule comes to the same, and leaves them -/
set_option linter.unusedVariables false
set_option linter.unusedSimpArgs false
namespace Go.Pa
open Go.Lx (T Tok)
/-- Nothing goes on with what begins here. -/
structure Stop (s : List Tok) : Prop where
  arrow : isW wArrow s = false
  star : isW wStar s = false
  dot : isW wDot s = false
  ops : ∀ lv, opAt lv s = 0
  begE : begE s = false
  begP : begP s = false
  val : (isW wVal s || isW wFun s) = false
  low : ofK 1 s = false
def Ext {α : Type} (s : List Tok) (x y : Res α) : Prop := ∀ a r, x = .ok a r → y = .ok a (r ++ s)
section
variable {s : List Tok}
theorem Ext.ok {α : Type} {a : α} {r : List Tok} : Ext s (.ok a r) (.ok a (r ++ s)) := fun _ _ e => by injection e with e1 e2; subst e1 e2; rfl
theorem Ext.no {α : Type} {e p : Nat} {y : Res α} : Ext s (.no e p) y := fun _ _ e => by cases e
theorem Ext.bind {α β : Type} {x y : Res α} {f g : α → List Tok → Res β} (h : Ext s x y) (hf : ∀ a r, Ext s (f a r) (g a (r ++ s))) : Ext s (x.bind f) (y.bind g) := fun b r e => by
  obtain ⟨a, r1, h1, h2⟩ := bind_ok.1 e
  rw [h a r1 h1]
  exact hf a r1 b r h2
theorem Ext.ite {α : Type} {c d : Bool} {x y x' y' : Res α} (h : d = c) (h1 : c = true → Ext s x x') (h2 : c = false → Ext s y y') : Ext s (if c = true then x else y) (if d = true then x' else y') := by
  subst h
  cases d with
  | true => exact h1 rfl
  | false => exact h2 rfl
theorem isW_app {w : T} {l : List Tok} (h : l ≠ [] ∨ isW w s = false) : isW w (l ++ s) = isW w l := by
  cases l with
  | nil => rcases h with h | h; exact absurd rfl h; simpa [isW] using h
  | cons t l => rfl
theorem ofK_app {k : Nat} {l : List Tok} (h : l ≠ [] ∨ ofK k s = false) : ofK k (l ++ s) = ofK k l := by
  cases l with
  | nil => rcases h with h | h; exact absurd rfl h; simpa [ofK] using h
  | cons t l => rfl
theorem tail_app {l : List Tok} (h : l ≠ []) : (l ++ s).tail = l.tail ++ s := by
  cases l with
  | nil => exact absurd rfl h
  | cons t l => rfl
theorem ne_of_isW {w : T} {l : List Tok} (h : isW w l = true) : l ≠ [] := by rintro rfl; cases h
theorem pl_app {z : Nat} {l : List Tok} (h : l ≠ []) : pl z (l ++ s) = pl z l := by
  cases l with
  | nil => exact absurd rfl h
  | cons t l => rfl
theorem Ext.need {z : Nat} {w : T} {l : List Tok} : Ext s (need z w l) (need z w (l ++ s)) := fun a r e => by
  unfold Pa.need at e ⊢
  split at e
  · rename_i hw
    injection e with e1 e2; subst e2
    have hn := ne_of_isW hw
    rw [if_pos (by rw [isW_app (.inl hn)]; exact hw), tail_app hn]
  · cases e
theorem Ext.taken {z k : Nat} {l : List Tok} : Ext s (taken z k l) (taken z k (l ++ s)) := fun a r e => by
  cases l with
  | nil => cases e
  | cons t l =>
    simp only [Pa.taken, List.cons_append] at e ⊢
    split at e
    · rename_i hw
      injection e with e1 e2; subst e1 e2
      rw [if_pos hw]
    · cases e
theorem Ext.path (hs : Stop s) {z : Nat} {a b : Bool} {st : Nat} : ∀ (k : Nat) {p : List T} {l : List Tok}, l.length ≤ k → Ext s (path z a b st p l) (path z a b st p (l ++ s)) := by
  intro k
  induction k with
  | zero => intro p l hk x r e; cases l with
    | nil => unfold Pa.path at e; cases e
    | cons t l => simp at hk
  | succ k ih =>
    intro p l hk x r e
    cases l with
    | nil => unfold Pa.path at e; cases e
    | cons t l =>
      unfold Pa.path at e
      rw [List.cons_append]
      unfold Pa.path
      split at e
      · rename_i h1
        rw [if_pos h1]
        split at e
        · cases e
        · rename_i h2
          rw [if_neg h2]
          split at e
          · rename_i h3
            rw [if_pos h3]
            injection e with e1 e2; subst e1 e2; rfl
          · rename_i h3
            rw [if_neg h3]
            split at e
            · split at e
              · rename_i hb
                injection e with e1 e2; subst e1 e2
                have hd := hs.dot
                cases s with
                | nil => simp [hb]
                | cons d l' =>
                  simp only [List.nil_append]
                  rw [if_neg (by rw [show isW wDot [d] = isW wDot (d :: l') from rfl, hd]; decide), if_pos hb]
              · cases e
            · rename_i d l'
              simp only [List.cons_append]
              split at e
              · rename_i hd
                rw [if_pos hd]
                exact ih (by simp at hk; omega) x r e
              · rename_i hd
                rw [if_neg hd]
                split at e
                · rename_i hb
                  rw [if_pos hb]
                  injection e with e1 e2; subst e1 e2; rfl
                · cases e
      · cases e
theorem params_app (hs : ofK 1 s = false) {z : Nat} : ∀ (l : List Tok) (ps : List T), params z ps (l ++ s) = ((params z ps l).1, (params z ps l).2 ++ s) := by
  intro l
  induction l with
  | nil =>
    intro ps
    cases s with
    | nil => simp [params]
    | cons t s =>
      simp only [List.nil_append, params]
      rw [if_neg (by simpa [ofK] using hs)]
  | cons t l ih =>
    intro ps
    simp only [List.cons_append, params]
    split
    · exact ih _
    · rfl
structure ExT (s : List Tok) (z n : Nat) : Prop where
  ty : ∀ {l}, Ext s (pTy z n l) (pTy z n (l ++ s))
  pair : ∀ {l}, Ext s (pPair z n l) (pPair z n (l ++ s))
  pairs : ∀ {t l}, Ext s (pPairs z n t l) (pPairs z n t (l ++ s))
  aty : ∀ {l}, Ext s (pAty z n l) (pAty z n (l ++ s))
theorem exT (hs : Stop s) (z : Nat) : ∀ n, ExT s z n := by
  intro n
  induction n with
  | zero => exact ⟨fun {l} => (by rw [pTy]; exact Ext.no), fun {l} => (by rw [pPair]; exact Ext.no), fun {t l} => (by rw [pPairs]; exact Ext.no), fun {l} => (by rw [pAty]; exact Ext.no)⟩
  | succ n ih =>
    constructor
    · intro l
      rw [pTy, pTy]
      refine Ext.bind ih.pair fun a r => Ext.ite (isW_app (.inr hs.arrow)) (fun hw => ?_) (fun _ => Ext.ok)
      rw [tail_app (ne_of_isW hw)]
      exact Ext.bind ih.ty fun a r => Ext.ok
    · intro l
      rw [pPair, pPair]
      exact Ext.bind ih.aty fun a r => ih.pairs
    · intro t l
      rw [pPairs, pPairs]
      refine Ext.ite (isW_app (.inr hs.star)) (fun hw => ?_) (fun _ => Ext.ok)
      rw [tail_app (ne_of_isW hw)]
      exact Ext.bind ih.aty fun a r => ih.pairs
    · intro l
      by_cases hl : l = []
      · subst hl
        intro a r e
        have := (lenT z (n + 1)).aty e
        simp at this
      · rw [pAty, pAty]
        rw [tail_app hl, pl_app hl]
        have ht : txt (l ++ s) = txt l := by cases l with
          | nil => exact absurd rfl hl
          | cons t l => rfl
        rw [ht]
        refine Ext.ite (isW_app (.inl hl)) (fun _ => Ext.ok) fun _ => Ext.ite (isW_app (.inl hl)) (fun _ => Ext.ok) fun _ => Ext.ite (isW_app (.inl hl)) (fun _ => Ext.ok) fun _ => Ext.ite (ofK_app (.inl hl)) (fun _ => Ext.ok) fun _ => Ext.ite (isW_app (.inl hl)) (fun _ => ?_) fun _ => ?_
        · exact Ext.bind ih.ty fun a r => Ext.bind Ext.need fun a r => Ext.ok
        · exact Ext.bind (Ext.path hs _ (Nat.le_refl _)) fun a r => Ext.ok
structure ExP (s : List Tok) (z n : Nat) : Prop where
  pat : ∀ {l}, Ext s (pPat z n l) (pPat z n (l ++ s))
  ap : ∀ {l}, Ext s (pAp z n l) (pAp z n (l ++ s))
theorem begP_app {l : List Tok} (h : l ≠ [] ∨ begP s = false) : begP (l ++ s) = begP l := by
  cases l with
  | nil => rcases h with h | h; exact absurd rfl h; rw [List.nil_append, h]; rfl
  | cons t l => rfl
theorem begE_app {l : List Tok} (h : l ≠ [] ∨ begE s = false) : begE (l ++ s) = begE l := by
  cases l with
  | nil => rcases h with h | h; exact absurd rfl h; rw [List.nil_append, h]; rfl
  | cons t l => rfl
theorem txt_app {l : List Tok} (h : l ≠ []) : txt (l ++ s) = txt l := by
  cases l with
  | nil => exact absurd rfl h
  | cons t l => rfl
theorem num_app {l : List Tok} (h : l ≠ []) : num (l ++ s) = num l := by
  cases l with
  | nil => exact absurd rfl h
  | cons t l => rfl
/-- Where a rule ends with a word that must stand there: what is left is not empty. -/
theorem Ext.nonempty {α : Type} {r : List Tok} {x y : Res α} (h0 : r = [] → ∀ a r', x ≠ .ok a r') (h : r ≠ [] → Ext s x y) : Ext s x y := fun a r' e => by
  by_cases hr : r = []
  · exact absurd e (h0 hr a r')
  · exact h hr a r' e
theorem need_nil {β : Type} {z : Nat} {w : T} {f : Unit → List Tok → Res β} : ∀ a r', (need z w []).bind f ≠ .ok a r' := fun a r' e => by
  obtain ⟨_, _, h, _⟩ := bind_ok.1 e
  cases h
theorem exP (hs : Stop s) (z : Nat) : ∀ n, ExP s z n := by
  intro n
  induction n with
  | zero => exact ⟨fun {l} => (by rw [pPat]; exact Ext.no), fun {l} => (by rw [pAp]; exact Ext.no)⟩
  | succ n ih =>
    constructor
    · intro l
      by_cases hl : l = []
      · subst hl
        intro a r e
        have := (lenP z (n + 1)).pat a r e
        simp at this
      · rw [pPat, pPat, pl_app hl]
        refine Ext.ite (ofK_app (.inl hl)) (fun _ => ?_) (fun _ => ih.ap)
        exact Ext.bind (Ext.path hs _ (Nat.le_refl _)) fun a r => Ext.ite (begP_app (.inr hs.begP)) (fun _ => Ext.bind ih.ap fun a r => Ext.ok) (fun _ => Ext.ok)
    · intro l
      by_cases hl : l = []
      · subst hl
        intro a r e
        have := (lenP z (n + 1)).ap a r e
        simp at this
      · rw [pAp, pAp, tail_app hl, pl_app hl, txt_app hl, num_app hl]
        refine Ext.ite (isW_app (.inl hl)) (fun _ => Ext.ok) fun _ => Ext.ite (isW_app (.inl hl)) (fun _ => Ext.ok) fun _ => Ext.ite (isW_app (.inl hl)) (fun _ => Ext.ok) fun _ => Ext.ite (ofK_app (.inl hl)) (fun _ => Ext.ok) fun _ => Ext.ite (ofK_app (.inl hl)) (fun _ => Ext.ok) fun _ => Ext.ite (ofK_app (.inl hl)) (fun _ => ?_) fun _ => ?_
        · exact Ext.bind (Ext.path hs _ (Nat.le_refl _)) fun a r => Ext.ok
        · refine Ext.bind Ext.need fun a l => Ext.nonempty (r := l) ?_ fun hl => ?_
          · rintro rfl a r e
            rw [if_neg (by decide)] at e
            obtain ⟨_, _, e, _⟩ := bind_ok.1 e
            have := (lenP z n).pat _ _ e
            simp at this
          · rw [tail_app hl]
            refine Ext.ite (isW_app (.inl hl)) (fun _ => Ext.ok) fun _ => Ext.bind ih.pat fun p r => Ext.nonempty (r := r) ?_ fun hr => ?_
            · rintro rfl
              rw [if_neg (by decide)]
              exact need_nil
            · rw [tail_app hr]
              exact Ext.ite (isW_app (.inl hr)) (fun _ => Ext.bind ih.pat fun q r => Ext.bind Ext.need fun _ r => Ext.ok) (fun _ => Ext.bind Ext.need fun _ r => Ext.ok)
structure ExE (s : List Tok) (z n : Nat) : Prop where
  exp : ∀ {l}, Ext s (pExp z n l) (pExp z n (l ++ s))
  bin : ∀ {lv l}, Ext s (pBin z n lv l) (pBin z n lv (l ++ s))
  ops : ∀ {lv x l}, Ext s (pOps z n lv x l) (pOps z n lv x (l ++ s))
  app : ∀ {l}, Ext s (pApp z n l) (pApp z n (l ++ s))
  apps : ∀ {x l}, Ext s (pApps z n x l) (pApps z n x (l ++ s))
  atom : ∀ {l}, Ext s (pAtom z n l) (pAtom z n (l ++ s))
  cases : ∀ {bs l}, Ext s (pCases z n bs l) (pCases z n bs (l ++ s))
  decs : ∀ {ds l}, Ext s (pDecs z n ds l) (pDecs z n ds (l ++ s))
  dec : ∀ {l}, Ext s (pDec z n l) (pDec z n (l ++ s))
  body : ∀ {l}, Ext s (pBody z n l) (pBody z n (l ++ s))
theorem opAt_app (hs : Stop s) {lv : Nat} {l : List Tok} : opAt lv (l ++ s) = opAt lv l := by
  cases l with
  | nil =>
    rw [List.nil_append, hs.ops lv]
    unfold opAt; split <;> rfl
  | cons t l => rfl
theorem exE (hs : Stop s) (z : Nat) : ∀ n, ExE s z n := by
  intro n
  induction n with
  | zero => exact ⟨fun {l} => (by rw [pExp]; exact Ext.no), fun {lv l} => (by rw [pBin]; exact Ext.no), fun {lv x l} => (by rw [pOps]; exact Ext.no), fun {l} => (by rw [pApp]; exact Ext.no), fun {x l} => (by rw [pApps]; exact Ext.no), fun {l} => (by rw [pAtom]; exact Ext.no), fun {bs l} => (by rw [pCases]; exact Ext.no), fun {ds l} => (by rw [pDecs]; exact Ext.no), fun {l} => (by rw [pDec]; exact Ext.no), fun {l} => (by rw [pBody]; exact Ext.no)⟩
  | succ n ih =>
    have EP := exP hs z n
    have ET := exT hs z n
    constructor
    · intro l
      by_cases hl : l = []
      · subst hl
        intro a r e
        have := (lenE z (n + 1)).exp a r e
        simp at this
      · rw [pExp, pExp, tail_app hl]
        refine Ext.ite (isW_app (.inl hl)) (fun _ => ?_) fun _ => Ext.ite (isW_app (.inl hl)) (fun _ => ?_) fun _ => ih.bin
        · exact Ext.bind EP.pat fun _ _ => Ext.bind Ext.need fun _ _ => Ext.bind ih.exp fun _ _ => Ext.ok
        · exact Ext.bind ih.exp fun _ _ => Ext.bind Ext.need fun _ _ => Ext.bind ih.exp fun _ _ => Ext.bind Ext.need fun _ _ => Ext.bind ih.exp fun _ _ => Ext.ok
    · intro lv l
      rw [pBin, pBin]
      exact Ext.ite rfl (fun _ => ih.app) fun _ => Ext.bind ih.bin fun _ _ => ih.ops
    · intro lv x l
      rw [pOps, pOps, opAt_app hs]
      refine Ext.ite rfl (fun _ => Ext.ok) fun h => ?_
      have hl : l ≠ [] := by
        rintro rfl
        have : opAt lv [] = 0 := by unfold opAt; split <;> rfl
        rw [this] at h; cases h
      rw [tail_app hl]
      exact Ext.bind ih.bin fun _ _ => Ext.ite rfl (fun _ => Ext.ok) fun _ => ih.ops
    · intro l
      rw [pApp, pApp]
      exact Ext.bind ih.atom fun _ _ => ih.apps
    · intro x l
      rw [pApps, pApps]
      exact Ext.ite (begE_app (.inr hs.begE)) (fun _ => Ext.bind ih.atom fun _ _ => ih.apps) fun _ => Ext.ok
    · intro l
      by_cases hl : l = []
      · subst hl
        intro a r e
        have := (lenE z (n + 1)).atom a r e
        simp at this
      · rw [pAtom, pAtom, tail_app hl, pl_app hl, num_app hl]
        refine Ext.ite (ofK_app (.inl hl)) (fun _ => Ext.ok) fun _ => Ext.ite (isW_app (.inl hl)) (fun _ => ?_) fun _ => Ext.ite (isW_app (.inl hl)) (fun _ => ?_) fun _ => Ext.ite (isW_app (.inl hl)) (fun _ => Ext.ok) fun _ => Ext.ite (isW_app (.inl hl)) (fun _ => Ext.ok) fun _ => Ext.ite (by rw [ofK_app (.inl hl), ofK_app (.inl hl)]) (fun _ => ?_) fun _ => ?_
        · exact Ext.bind ih.decs fun _ _ => Ext.bind Ext.need fun _ _ => Ext.bind ih.exp fun _ _ => Ext.bind Ext.need fun _ _ => Ext.ok
        · refine Ext.bind ih.exp fun _ _ => Ext.bind Ext.need fun _ r => Ext.nonempty (r := r) ?_ fun hr => ?_
          · rintro rfl a r e
            rw [if_neg (by decide)] at e
            obtain ⟨_, _, e, _⟩ := bind_ok.1 e
            have := (lenE z n).cases _ _ e
            simp at this
          · rw [isW_app (.inl hr), tail_app hr]
            have : (if isW wBar r = true then r.tail ++ s else r ++ s) = (if isW wBar r = true then r.tail else r) ++ s := by split <;> rfl
            rw [this]
            exact Ext.bind ih.cases fun _ _ => Ext.ok
        · exact Ext.bind (Ext.path hs _ (Nat.le_refl _)) fun _ _ => Ext.ok
        · refine Ext.bind Ext.need fun a l => Ext.nonempty (r := l) ?_ fun hl => ?_
          · rintro rfl a r e
            rw [if_neg (by decide)] at e
            obtain ⟨_, _, e, _⟩ := bind_ok.1 e
            have := (lenE z n).exp _ _ e
            simp at this
          · rw [tail_app hl]
            refine Ext.ite (isW_app (.inl hl)) (fun _ => Ext.ok) fun _ => Ext.bind ih.exp fun p r => Ext.nonempty (r := r) ?_ fun hr => ?_
            · rintro rfl
              rw [if_neg (by decide), if_neg (by decide)]
              exact need_nil
            · rw [tail_app hr]
              exact Ext.ite (isW_app (.inl hr)) (fun _ => Ext.bind ih.exp fun _ _ => Ext.bind Ext.need fun _ _ => Ext.ok) fun _ => Ext.ite (isW_app (.inl hr)) (fun _ => Ext.bind ET.ty fun _ _ => Ext.bind Ext.need fun _ _ => Ext.ok) (fun _ => Ext.bind Ext.need fun _ _ => Ext.ok)
    · intro bs l
      rw [pCases, pCases]
      refine Ext.bind EP.pat fun _ _ => Ext.bind Ext.need fun _ _ => Ext.bind ih.exp fun _ r => Ext.nonempty (r := r) ?_ fun hr => ?_
      · rintro rfl
        rw [if_neg (by decide)]
        exact need_nil
      · rw [tail_app hr]
        exact Ext.ite (isW_app (.inl hr)) (fun _ => ih.cases) (fun _ => Ext.bind Ext.need fun _ _ => Ext.ok)
    · intro ds l
      rw [pDecs, pDecs]
      refine Ext.ite ?_ (fun _ => Ext.bind ih.dec fun _ _ => ih.decs) (fun _ => Ext.ok)
      cases l with
      | nil => rw [List.nil_append, hs.val]; rfl
      | cons t l => rfl
    · intro l
      by_cases hl : l = []
      · subst hl
        intro a r e
        have := (lenE z (n + 1)).dec a r e
        simp at this
      · rw [pDec, pDec, tail_app hl, pl_app hl]
        refine Ext.ite (isW_app (.inl hl)) (fun _ => ?_) fun _ => ?_
        · exact Ext.bind Ext.taken fun _ _ => Ext.bind ih.body fun _ _ => Ext.ok
        · refine Ext.bind Ext.need fun _ _ => Ext.bind Ext.taken fun _ _ => Ext.bind Ext.taken fun p r => ?_
          rw [params_app hs.low]
          exact Ext.bind ih.body fun _ _ => Ext.ok
    · intro l
      by_cases hl : l = []
      · subst hl
        intro a r e
        have := (lenE z (n + 1)).body a r e
        simp at this
      · rw [pBody, pBody, tail_app hl]
        refine Ext.ite (isW_app (.inl hl)) (fun _ => ?_) fun _ => ?_
        · exact Ext.bind ET.ty fun _ _ => Ext.bind Ext.need fun _ _ => Ext.bind ih.exp fun _ _ => Ext.ok
        · exact Ext.bind Ext.need fun _ _ => Ext.bind ih.exp fun _ _ => Ext.ok
end
end Go.Pa
end

section
/- PARSE, plain: places make no difference to what tokens are -/
set_option linter.unusedVariables false
set_option linter.unusedSimpArgs false
namespace Go.Pa
open Go.Lx (T Tok)
/-- Tokens without their places. -/
def bare (t : Tok) : Tok := { t with at_ := 0 }
end Go.Pa
end

section
/- PARSE, plain: an expression in parentheses; a pair of two -/
set_option linter.unusedVariables false
set_option linter.unusedSimpArgs false
namespace Go.Pa
open Go.Lx (T Tok)
/-- A mark. -/
def mk (w : T) (a : Nat) : Tok := ⟨6, w, 0, a⟩
theorem stop_close (a : Nat) (l : List Tok) : Stop (mk wClose a :: l) where
  arrow := rfl
  star := rfl
  dot := rfl
  ops := fun lv => by unfold opAt; split <;> rfl
  begE := rfl
  begP := rfl
  val := rfl
  low := rfl
theorem stop_comma (a : Nat) (l : List Tok) : Stop (mk wComma a :: l) where
  arrow := rfl
  star := rfl
  dot := rfl
  ops := fun lv => by unfold opAt; split <;> rfl
  begE := rfl
  begP := rfl
  val := rfl
  low := rfl
/-- What begins with a closing parenthesis. -/
theorem isW_ne {w v : T} {l : List Tok} (h : isW w l = true) (hne : w ≠ v) : isW v l = false := by
  cases l with
  | nil => cases h
  | cons t l =>
    simp only [isW, Bool.and_eq_true, decide_eq_true_eq] at h
    simp only [isW, Bool.and_eq_false_iff, decide_eq_false_iff_not]
    exact .inr fun e => hne (h.2.symm.trans e)
theorem isW_kind {w : T} {l : List Tok} (h : isW w l = true) {k : Nat} (h3 : k ≠ 3) (h6 : k ≠ 6) : ofK k l = false := by
  cases l with
  | nil => cases h
  | cons t l =>
    simp only [isW, Bool.and_eq_true, Bool.or_eq_true, beq_iff_eq] at h
    simp only [ofK, beq_eq_false_iff_ne]
    rcases h.1 with e | e <;> omega
def Bad {α : Type} (x : Res α) : Prop := ∀ a r, x ≠ .ok a r
theorem Bad.bind {α β : Type} {x : Res α} {f : α → List Tok → Res β} (h : Bad x) : Bad (x.bind f) := fun a r e => by
  obtain ⟨_, _, e, _⟩ := bind_ok.1 e
  exact h _ _ e
theorem bad_w {z : Nat} {w : T} {l : List Tok} (h : isW w l = true) (w1 : w ≠ wFn) (w2 : w ≠ wIf) (w3 : w ≠ wLet) (w4 : w ≠ wCase) (w5 : w ≠ wTrue) (w6 : w ≠ wFalse) (w7 : w ≠ wOpen) : ∀ n, Bad (pAtom z n l) ∧ Bad (pApp z n l) ∧ (∀ lv, lv ≤ 3 → Bad (pBin z n lv l)) ∧ Bad (pExp z n l) := by
  intro n
  induction n with
  | zero => exact ⟨fun a r e => (by rw [pAtom] at e; cases e), fun a r e => (by rw [pApp] at e; cases e), fun lv _ a r e => (by rw [pBin] at e; cases e), fun a r e => (by rw [pExp] at e; cases e)⟩
  | succ n ih =>
    obtain ⟨i1, i2, i3, i4⟩ := ih
    refine ⟨?_, ?_, ?_, ?_⟩
    · rw [pAtom, isW_kind h (by decide) (by decide), isW_ne h w3, isW_ne h w4, isW_ne h w5, isW_ne h w6, isW_kind h (by decide) (by decide), isW_kind h (by decide) (by decide)]
      simp only [Bool.false_eq_true, if_false, Bool.or_self]
      refine Bad.bind fun a r e => ?_
      unfold need at e
      rw [isW_ne h w7] at e
      simp at e
    · rw [pApp]; exact i1.bind
    · intro lv hlv
      rw [pBin]
      split
      · exact i2
      · rename_i hw
        have : lv ≠ 3 := by simpa using hw
        exact (i3 (lv + 1) (by omega)).bind
    · rw [pExp, isW_ne h w1, isW_ne h w2]
      simp only [Bool.false_eq_true, if_false]
      exact i3 0 (by omega)
theorem bad_close {z : Nat} {l : List Tok} (h : isW wClose l = true) (n : Nat) : Bad (pAtom z n l) ∧ Bad (pApp z n l) ∧ (∀ lv, lv ≤ 3 → Bad (pBin z n lv l)) ∧ Bad (pExp z n l) :=
  bad_w h (by decide) (by decide) (by decide) (by decide) (by decide) (by decide) (by decide) n
/-- An atom behind which nothing goes on is the expression. -/
theorem atom_up {z n : Nat} {l r : List Tok} {x : Exp} (h0 : isW wFn l = false) (h1 : isW wIf l = false) (h : pAtom z n l = .ok x r) (hs : begE r = false) (ho : ∀ lv, opAt lv r = 0) : pExp z (n + 6) l = .ok x r := by
  obtain ⟨m, rfl⟩ : ∃ m, n = m + 1 := ⟨n - 1, by
    cases n with
    | zero => rw [pAtom] at h; cases h
    | succ n => rfl⟩
  have a1 : pApp z (m + 1 + 1) l = .ok x r := by
    rw [pApp, h]
    simp only [Res.bind]
    rw [pApps, hs]; rfl
  have a2 : pBin z (m + 1 + 1 + 1) 3 l = .ok x r := by rw [pBin, a1]; rfl
  have a3 : pBin z (m + 1 + 1 + 1 + 1) 2 l = .ok x r := by
    rw [pBin, if_neg (by decide), a2]
    simp only [Res.bind]
    rw [pOps, ho]; rfl
  have a4 : pBin z (m + 1 + 1 + 1 + 1 + 1) 1 l = .ok x r := by
    rw [pBin, if_neg (by decide), a3]
    simp only [Res.bind]
    rw [pOps, ho]; rfl
  have a5 : pBin z (m + 1 + 1 + 1 + 1 + 1 + 1) 0 l = .ok x r := by
    rw [pBin, if_neg (by decide), a4]
    simp only [Res.bind]
    rw [pOps, ho]; rfl
  rw [show m + 1 + 6 = (m + 1 + 1 + 1 + 1 + 1 + 1) + 1 from rfl, pExp, h0, h1, a5]; rfl
theorem begE_nil : begE [] = false := rfl
theorem opAt_nil (lv : Nat) : opAt lv [] = 0 := by unfold opAt; split <;> rfl
/-- Two expressions with a comma between them, in parentheses, are the pair of both. -/
theorem pairs {z n a b c : Nat} {l m : List Tok} {x y : Exp} (h : pExp z n l = .ok x []) (k : pExp z n m = .ok y []) : pExp z (n + 7) (mk wOpen a :: (l ++ mk wComma c :: (m ++ [mk wClose b]))) = .ok (.pair x y) [] := by
  have hl : l ≠ [] := by
    rintro rfl
    have := (lenE z n).exp _ _ h
    simp at this
  have hc : isW wClose (l ++ mk wComma c :: (m ++ [mk wClose b])) = false := by
    rw [isW_app (.inl hl)]
    cases hw : isW wClose l with
    | false => rfl
    | true => exact absurd h ((bad_close hw n).2.2.2 _ _)
  have he := (exE (stop_comma c (m ++ [mk wClose b])) z n).exp _ _ h
  have ke := (exE (stop_close b []) z n).exp _ _ k
  refine atom_up (n := n + 1) rfl rfl ?_ begE_nil opAt_nil
  rw [pAtom]
  generalize hL : l ++ mk wComma c :: (m ++ [mk wClose b]) = L at *
  have e1 : ofK 4 (mk wOpen a :: L) = false := rfl
  have e2 : isW wLet (mk wOpen a :: L) = false := rfl
  have e3 : isW wCase (mk wOpen a :: L) = false := rfl
  have e4 : isW wTrue (mk wOpen a :: L) = false := rfl
  have e5 : isW wFalse (mk wOpen a :: L) = false := rfl
  have e6 : (ofK 1 (mk wOpen a :: L) || ofK 2 (mk wOpen a :: L)) = false := rfl
  have e7 : need z wOpen (mk wOpen a :: L) = .ok () L := rfl
  rw [e1, e2, e3, e4, e5, e6, e7]
  simp only [Bool.false_eq_true, if_false, Res.bind]
  rw [hc, he]
  simp only [Bool.false_eq_true, if_false, List.nil_append]
  have f1 : isW wComma (mk wComma c :: (m ++ [mk wClose b])) = true := rfl
  rw [f1]
  simp only [if_true, List.tail_cons]
  rw [ke]
  rfl
end Go.Pa
end

section
/- PARSE, plain: the tokens of a text in parentheses; of two with a comma -/
set_option linter.unusedVariables false
set_option linter.unusedSimpArgs false
namespace Go.Pa
open Go.Lx
variable {res : T → Bool}
end Go.Pa
end

section
/- PARSE, plain: the laws ParseParens, ParsePairs, ParseTokens over tokens -/
set_option linter.unusedVariables false
set_option linter.unusedSimpArgs false
namespace Go.Pa
open Go.Lx
variable {res : T → Bool}
end Go.Pa
end

section
/- PARSE: what the syntax is as plain data (rows of cells) -/
set_option linter.unusedVariables false
set_option linter.unusedSimpArgs false
namespace Go.Pa
open Go Go.Eng
open Go.Lx (T Tok)
abbrev bs (t : T) : ByteArray := ⟨t.toArray⟩
abbrev ci (n : Int) : CT := .int .i64 n
abbrev cs (t : T) : CT := .str (bs t)
/-- A path, a list of names. -/
def cp (p : List T) : CT := .rows 1 (p.map fun t => [cs t])
def Ty.row : Ty → Row
  | .var n => [ci 1, cs n, .rows 1 [], .rows 4 []]
  | .con p => [ci 2, cs [], cp p, .rows 4 []]
  | .fn a b => [ci 3, cs [], .rows 1 [], .rows 4 [a.row, b.row]]
  | .pair a b => [ci 4, cs [], .rows 1 [], .rows 4 [a.row, b.row]]
def patR (k : Int) (n : T) (p : List T) (v : Int) (kids : List Row) : Row := [ci k, cs n, cp p, ci v, .rows 5 kids]
def Pat.row : Pat → Row
  | .any => patR 1 [] [] 0 []
  | .var n => patR 2 n [] 0 []
  | .int v => patR 3 [] [] v []
  | .tru => patR 4 [] [] 0 []
  | .fls => patR 5 [] [] 0 []
  | .unit => patR 6 [] [] 0 []
  | .pair a b => patR 7 [] [] 0 [a.row, b.row]
  | .con p => patR 8 [] p 0 []
  | .conA p a => patR 8 [] p 0 [a.row]
def expR (k op v : Int) (p : List T) (ps ks ds ts : List Row) : Row := [ci k, ci op, ci v, cp p, .rows 5 ps, .rows 8 ks, .rows 9 ds, .rows 4 ts]
def decR (k a : Int) (n : T) (ps : List T) (ts es : List Row) : Row := [ci k, ci a, cs n, cp ps, .rows 4 ts, .rows 8 es, .rows 2 [], .rows 5 [], .rows 5 []]
mutual
def Exp.row : Exp → Row
  | .int v => expR 1 0 v [] [] [] [] []
  | .tru => expR 2 0 0 [] [] [] [] []
  | .fls => expR 3 0 0 [] [] [] [] []
  | .unit => expR 4 0 0 [] [] [] [] []
  | .var p => expR 5 0 0 p [] [] [] []
  | .con p => expR 6 0 0 p [] [] [] []
  | .fn p x => expR 7 0 0 [] [p.row] [Exp.row x] [] []
  | .app f x => expR 8 0 0 [] [] [Exp.row f, Exp.row x] [] []
  | .pair a b => expR 9 0 0 [] [] [Exp.row a, Exp.row b] [] []
  | .lets l x => expR 10 0 0 [] [] [Exp.row x] (decRs l) []
  | .ite c a b => expR 11 0 0 [] [] [Exp.row c, Exp.row a, Exp.row b] [] []
  | .cases x l => expR 12 0 0 [] (l.map fun b => b.1.row) (Exp.row x :: caseRs l) [] []
  | .bin o a b => expR 13 o 0 [] [] [Exp.row a, Exp.row b] [] []
  | .ann x t => expR 14 0 0 [] [] [Exp.row x] [] [t.row]
def Dec.row : Dec → Row
  | .val a n t x => decR 1 a n [] (t.toList.map Ty.row) [Exp.row x]
  | .func a n ps t x => decR 2 a n ps (t.toList.map Ty.row) [Exp.row x]
def decRs : List Dec → List Row
  | [] => []
  | d :: l => Dec.row d :: decRs l
def caseRs : List (Pat × Exp) → List Row
  | [] => []
  | (_, x) :: l => Exp.row x :: caseRs l
end
end Go.Pa
end

section
open Go Go.Eng
namespace Go.Proofs
noncomputable def shL5 : List (Nat × KM) := [(f_lex_Lex, .con (some (resSh Pg f_lex_Lex)) none false),
  (f_parsecore_Reader_Is, .con (some (resSh Pg f_parsecore_Reader_Is)) none false),
  (f_parsecore_Reader_of, .con (some (resSh Pg f_parsecore_Reader_of)) none false),
  (f_waferref03_Lex, .con (some (resSh Pg f_waferref03_Lex)) none false),
  (f_waferref05_Reader_Is, .con (some (resSh Pg f_waferref05_Reader_Is)) none false),
  (f_waferref05_Reader_kind, .con (some (resSh Pg f_waferref05_Reader_kind)) none false),
  (f_waferref05_Reader_begins, .con (some (resSh Pg f_waferref05_Reader_begins)) none false),
  (f_waferref05_Reader_beginsPat, .con (some (resSh Pg f_waferref05_Reader_beginsPat)) none false),
  (f_waferref05_Reader_dotted, .con (some (resSh Pg f_waferref05_Reader_dotted)) none false),
  (f_parsecore_Reader_begins, .con (some (resSh Pg f_parsecore_Reader_begins)) none false),
  (f_tree_RightTy, .con (some (resSh Pg f_tree_RightTy)) none false),
  (f_tree_RightPat, .con (some (resSh Pg f_tree_RightPat)) none false),
  (f_tree_RightExp, .con (some (resSh Pg f_tree_RightExp)) none false),
  (f_waferref04_RightTy, .con (some (resSh Pg f_waferref04_RightTy)) none false),
  (f_waferref04_RightPat, .con (some (resSh Pg f_waferref04_RightPat)) none false),
  (f_waferref04_RightExp, .con (some (resSh Pg f_waferref04_RightExp)) none false),
  (f_waferref04_SameTy, .con (some (resSh Pg f_waferref04_SameTy)) none false),
  (f_waferref04_SamePat, .con (some (resSh Pg f_waferref04_SamePat)) none false),
  (f_waferref04_SameExp, .con (some (resSh Pg f_waferref04_SameExp)) none false),
  (f_waferlaw05_alive, .con (some (resSh Pg f_waferlaw05_alive)) none false),
  (f_parsecore_Ty, .con (some (resSh Pg f_parsecore_Ty)) none false),
  (f_parsecore_Pat, .con (some (resSh Pg f_parsecore_Pat)) none false),
  (f_parsecore_Exp, .con (some (resSh Pg f_parsecore_Exp)) none false),
  (f_waferref05_Ty, .con (some (resSh Pg f_waferref05_Ty)) none false),
  (f_waferref05_Pat, .con (some (resSh Pg f_waferref05_Pat)) none false),
  (f_waferref05_Exp, .con (some (resSh Pg f_waferref05_Exp)) none false),
  (f_parsecore_Reader_Take, .con (some (resSh Pg f_parsecore_Reader_Take)) none true),
  (f_parsecore_Reader_Need, .con (some (resSh Pg f_parsecore_Reader_Need)) (some (y_parsecore_failure, .const (.agg []))) true),
  (f_parsecore_Reader_taken, .con (some (resSh Pg f_parsecore_Reader_taken)) (some (y_parsecore_failure, .const (.agg []))) true),
  (f_parsecore_Reader_Path, .con (some (resSh Pg f_parsecore_Reader_Path)) (some (y_parsecore_failure, .const (.agg []))) true),
  (f_parsecore_Reader_path, .con (some (resSh Pg f_parsecore_Reader_path)) (some (y_parsecore_failure, .const (.agg []))) true),
  (f_parsecore_Reader_Ty, .con (some (resSh Pg f_parsecore_Reader_Ty)) (some (y_parsecore_failure, .const (.agg []))) true),
  (f_parsecore_Reader_Pat, .con (some (resSh Pg f_parsecore_Reader_Pat)) (some (y_parsecore_failure, .const (.agg []))) true),
  (f_parsecore_Reader_Exp, .con (some (resSh Pg f_parsecore_Reader_Exp)) (some (y_parsecore_failure, .const (.agg []))) true),
  (f_parsecore_Reader_Dec, .con (some (resSh Pg f_parsecore_Reader_Dec)) (some (y_parsecore_failure, .const (.agg []))) true),
  (f_parsecore_Reader_ty, .con (some (resSh Pg f_parsecore_Reader_ty)) (some (y_parsecore_failure, .const (.agg []))) true),
  (f_parsecore_Reader_pairty, .con (some (resSh Pg f_parsecore_Reader_pairty)) (some (y_parsecore_failure, .const (.agg []))) true),
  (f_parsecore_Reader_aty, .con (some (resSh Pg f_parsecore_Reader_aty)) (some (y_parsecore_failure, .const (.agg []))) true),
  (f_parsecore_Reader_pat, .con (some (resSh Pg f_parsecore_Reader_pat)) (some (y_parsecore_failure, .const (.agg []))) true),
  (f_parsecore_Reader_apat, .con (some (resSh Pg f_parsecore_Reader_apat)) (some (y_parsecore_failure, .const (.agg []))) true),
  (f_parsecore_Reader_exp, .con (some (resSh Pg f_parsecore_Reader_exp)) (some (y_parsecore_failure, .const (.agg []))) true),
  (f_parsecore_Reader_branches, .con (some (resSh Pg f_parsecore_Reader_branches)) (some (y_parsecore_failure, .const (.agg []))) true),
  (f_parsecore_Reader_dec, .con (some (resSh Pg f_parsecore_Reader_dec)) (some (y_parsecore_failure, .const (.agg []))) true),
  (f_parsecore_Reader_binary, .con (some (resSh Pg f_parsecore_Reader_binary)) (some (y_parsecore_failure, .const (.agg []))) true),
  (f_parsecore_Reader_app, .con (some (resSh Pg f_parsecore_Reader_app)) (some (y_parsecore_failure, .const (.agg []))) true),
  (f_parsecore_Reader_atom, .con (some (resSh Pg f_parsecore_Reader_atom)) (some (y_parsecore_failure, .const (.agg []))) true),
  (f_waferref05_Reader_Take, .con (some (resSh Pg f_waferref05_Reader_Take)) none true),
  (f_waferref05_Reader_Need, .con (some (resSh Pg f_waferref05_Reader_Need)) none true),
  (f_waferref05_Reader_name, .con (some (resSh Pg f_waferref05_Reader_name)) none true),
  (f_waferref05_Reader_Path, .con (some (resSh Pg f_waferref05_Reader_Path)) none true),
  (f_waferref05_Reader_path, .con (some (resSh Pg f_waferref05_Reader_path)) none true),
  (f_waferref05_Reader_either, .con (some (resSh Pg f_waferref05_Reader_either)) none true),
  (f_waferref05_Reader_Ty, .con (some (resSh Pg f_waferref05_Reader_Ty)) none true),
  (f_waferref05_Reader_pairTy, .con (some (resSh Pg f_waferref05_Reader_pairTy)) none true),
  (f_waferref05_Reader_atomTy, .con (some (resSh Pg f_waferref05_Reader_atomTy)) none true),
  (f_waferref05_Reader_Pat, .con (some (resSh Pg f_waferref05_Reader_Pat)) none true),
  (f_waferref05_Reader_pat, .con (some (resSh Pg f_waferref05_Reader_pat)) none true),
  (f_waferref05_Reader_atomPat, .con (some (resSh Pg f_waferref05_Reader_atomPat)) none true),
  (f_waferref05_Reader_Exp, .con (some (resSh Pg f_waferref05_Reader_Exp)) none true),
  (f_waferref05_Reader_exp, .con (some (resSh Pg f_waferref05_Reader_exp)) none true),
  (f_waferref05_Reader_cases, .con (some (resSh Pg f_waferref05_Reader_cases)) none true),
  (f_waferref05_Reader_Dec, .con (some (resSh Pg f_waferref05_Reader_Dec)) none true),
  (f_waferref05_Reader_cmp, .con (some (resSh Pg f_waferref05_Reader_cmp)) none true),
  (f_waferref05_Reader_sum, .con (some (resSh Pg f_waferref05_Reader_sum)) none true),
  (f_waferref05_Reader_prod, .con (some (resSh Pg f_waferref05_Reader_prod)) none true),
  (f_waferref05_Reader_app, .con (some (resSh Pg f_waferref05_Reader_app)) none true),
  (f_waferref05_Reader_atom, .con (some (resSh Pg f_waferref05_Reader_atom)) none true),
  (f_parsecore_guarded_bool, .inl true),
  (f_parsecore_guarded_string, .inl true),
  (f_parsecore_guarded_strings, .inl true),
  (f_parsecore_guarded_api_Ty, .inl true),
  (f_parsecore_guarded_api_Pat, .inl true),
  (f_parsecore_guarded_api_Exp, .inl true),
  (f_parsecore_guarded_api_Dec, .inl true)]
noncomputable def sh5 : FuncId → KM := fun f => match shL5.lookup f with
  | some k => k
  | none => .inl false
@[irreducible] noncomputable def kc5 : KC := kcalls Pg cfg0 rs0 sh5 12
@[irreducible] noncomputable def kt5 (f : FuncId) (args : List AV) (H : Heap) : KT := ktree Pg cfg0 rs0 sh5 12 false f args .none H
theorem hkc5 {QD : List (St → Prop)} {QR : CRes → Prop} : KCS Pg cfg0 evp QD QR kc5 := by
  delta kc5
  exact kcalls_sound (ev_byCode hx0) 12 _
theorem kt5_ev {f : FuncId} {args : List AV} {H : Heap} {r : CRes} (h : (kt5 f args H).wp Pg cfg0 evp [] (fun x => x = r)) : evp f args .none H = some r := by
  delta kt5 at h
  obtain ⟨x, h1, rfl⟩ := ktree_sound (ev_byCode hx0) h
  exact h1
theorem loop5 {σ : Type} {t : KT} {QD : List (St → Prop)} {QR : CRes → Prop} (S : σ → St) (Inv : σ → Prop) (m : σ → Nat) (a0 : σ) (h0 : t.atLoop = some (S a0)) (hi : Inv a0)
    (hr : ∀ a, Inv a → (t.round Pg cfg0 rs0 kc5 (S a)).wp Pg cfg0 evp ((fun s => ∃ a', (Inv a' ∧ m a' < m a) ∧ s = S a') :: QD) QR) : t.wp Pg cfg0 evp QD QR :=
  kt_loop (rs := rs0) (kc := kc5) S Inv m a0 (fun _ => hkc5) h0 hi hr
end Go.Proofs
end

section
/- PARSE: the program's reader: what its functions come to (RC), and how a tree asks for it -/
set_option linter.unusedVariables false
set_option linter.unusedSimpArgs false
open Go Go.Eng Go.Pa
open Go.Lx (T Tok)
namespace Go.Proofs
theorem gx_ren : ∀ f e, gx f = some e → ∀ args v, e args = some v → ∀ ρ : Nat → Nat, e (args.map (AV.ren ρ)) = some (v.ren ρ) := by
  intro f e hf args v hv ρ
  unfold gx extL at hf
  simp only [List.lookup] at hf
  split at hf
  · injection hf with hf; subst hf
    unfold xIndexByte at hv
    split at hv
    · split at hv
      · rename_i hc
        injection hv with hv; subst hv
        simp only [List.map_cons, List.map_nil, AV.ren, xIndexByte, if_pos hc]
      · cases hv
    · cases hv
  · split at hf
    · injection hf with hf; subst hf
      unfold xParseInt at hv
      split at hv
      · split at hv
        · rename_i hsz
          simp only [List.map_cons, List.map_nil, AV.ren, xParseInt, if_pos hsz]
          split at hv
          · rename_i hp; injection hv with hv; subst hv; rfl
          · rename_i hp; injection hv with hv; subst hv; rfl
          · cases hv
        · cases hv
      · cases hv
    · split at hf
      · injection hf with hf; subst hf
        unfold xJoin at hv
        split at hv
        · split at hv
          · rename_i xs hx
            split at hv
            · rename_i hl
              injection hv with hv; subst hv
              simp only [List.map_cons, List.map_nil, AV.ren, xJoin, strsOf_ren ρ hx, if_pos hl]
            · cases hv
          · cases hv
        · cases hv
      · cases hf
abbrev tks (l : List Tok) : List (List AV) := l.map tokRow
abbrev hp5 (l : List (List AV)) (z e p d : Int) : List AV := [.slice 4 l .no, vI z, vI e, vI p, vI d]
abbrev rH (l : List Tok) (z d : Nat) : Heap := [hp5 (tks l) z 0 0 d]
abbrev rB (rows : List (List AV)) (z e p d : Nat) : Heap := [hp5 rows z e p d]
abbrev failV : AV := .iface y_parsecore_failure (.agg [])
/-- What the texts of tokens are like. -/
def gtok (t : Tok) : Prop := (t.kind = 5 → t.text ≠ []) ∧ (t.kind = 1 → ∃ c r, t.text = c :: r ∧ Lx.low c = true) ∧ (t.kind = 2 → ∃ c r, t.text = c :: r ∧ Lx.high c = true) ∧ (t.kind = 3 → ∃ c r, t.text = c :: r ∧ Lx.low c = true)
def Gd (l : List Tok) : Prop := ∀ t ∈ l, gtok t
theorem Gd.tail {l : List Tok} (h : Gd l) : Gd l.tail := fun t ht => h t (List.mem_of_mem_tail ht)
theorem Gd.cons {t : Tok} {l : List Tok} (h : Gd (t :: l)) : gtok t ∧ Gd l := ⟨h t (by simp), fun u hu => h u (by simp [hu])⟩
theorem Gd.nil : Gd [] := fun t ht => by cases ht
/-- What a rule of the reader comes to. -/
def Rq {α : Type} (v : α → AV) (F : Res α) (z d : Nat) (r : CRes) : Prop :=
  match F with
  | .ok a l => Gd l ∧ r = ⟨.ret (v a), .none, rH l z d⟩
  | .no e p => e ≠ 0 ∧ ∃ l : List Tok, r = ⟨.panic failV, .none, rB (tks l) z e p d⟩
def RC {α : Type} (v : α → AV) (F : Res α) (z d : Nat) (g : FuncId) (args : List AV) (H : Heap) : Prop := ∃ r, evp g args .none H = some r ∧ Rq v F z d r
theorem rq_ok {α : Type} {v : α → AV} {F : Res α} {z d : Nat} {a : α} {l : List Tok} {x : AV} (h : F = .ok a l) (hg : Gd l) (hx : x = v a) : Rq v F z d ⟨.ret x, .none, rH l z d⟩ := by
  subst h hx; exact ⟨hg, rfl⟩
theorem rq_no {α : Type} {v : α → AV} {F : Res α} {z d e p : Nat} {l : List Tok} (h : F = .no e p) (he : e ≠ 0) : Rq v F z d ⟨.panic failV, .none, rB (tks l) z e p d⟩ := by
  subst h; exact ⟨he, l, rfl⟩
theorem rc_of {α : Type} {v : α → AV} {F : Res α} {z d : Nat} {g : FuncId} {args : List AV} {H : Heap} (h : (kt5 g args H).wp Pg cfg0 evp [] (Rq v F z d)) : RC v F z d g args H := by
  delta kt5 at h
  exact ktree_sound (ev_byCode hx0) h
theorem kt5_ex {f : FuncId} {args : List AV} {H : Heap} {Q : CRes → Prop} (h : (kt5 f args H).wp Pg cfg0 evp [] Q) : ∃ r, evp f args .none H = some r ∧ Q r := by
  delta kt5 at h
  exact ktree_sound (ev_byCode hx0) h
/-! ### values -/
def tyK : Ty → Int
  | .var _ => 1
  | .con _ => 2
  | .fn _ _ => 3
  | .pair _ _ => 4
def tyN : Ty → ByteArray
  | .var n => bs n
  | _ => bs []
def tyP : Ty → List (List AV)
  | .con p => p.map fun t => [vS (bs t)]
  | _ => []
def tyQ : Ty → List (List AV)
  | .fn a b => [avs a.row, avs b.row]
  | .pair a b => [avs a.row, avs b.row]
  | _ => []
theorem avss_path (p : List T) : avss (p.map fun t => [cs t]) = p.map fun t => [vS (bs t)] := by
  rw [avss_map, List.map_map]; rfl
theorem ty_row (t : Ty) : avs t.row = [vI (tyK t), vS (tyN t), .slice 1 (tyP t) .no, .slice 4 (tyQ t) .no] := by
  cases t with
  | var n => rfl
  | con p => simp only [Ty.row, avs, CT.av, cp, avss_path, tyK, tyN, tyP, tyQ]; rfl
  | fn a b => rfl
  | pair a b => rfl
abbrev tyV (t : Ty) : AV := .agg (avs t.row)
abbrev strV (t : T) : AV := vS (bs t)
abbrev strsV (p : List T) : AV := .slice 1 (p.map fun t => [vS (bs t)]) .no
abbrev unitV (_ : Unit) : AV := .tuple []
abbrev pathV (x : List T × Bool) : AV := .tuple [strsV x.1, vB x.2]
/-! ### how a tree asks -/
section
variable {QD : List (St → Prop)} {QR : CRes → Prop}
variable {z d : Nat} {g : FuncId} {args : List AV} {H : Heap} {k2 : List (List AV) → Int → Int → Int → Int → KT}
theorem wp_unit {F : Res Unit} {k1 : List (List AV) → Int → Int → Int → Int → KT} (c : RC unitV F z d g args H)
    (hok : ∀ u l, F = .ok u l → Gd l → (k1 (tks l) z 0 0 d).wp Pg cfg0 evp QD QR) (hno : ∀ e p l, F = .no e p → e ≠ 0 → (k2 (tks l) z e p d).wp Pg cfg0 evp QD QR) :
    (KT.alt (.exR fun m => .exI fun a => .exI fun e => .exI fun p => .exI fun d' => .call g args .none H ⟨.ret (.tuple []), .none, [hp5 m a e p d']⟩ (k1 m a e p d'))
      (.exR fun m => .exI fun a => .exI fun e => .exI fun p => .exI fun d' => .call g args .none H ⟨.panic failV, .none, [hp5 m a e p d']⟩ (k2 m a e p d'))).wp Pg cfg0 evp QD QR := by
  obtain ⟨r, h1, h2⟩ := c
  cases hF : F with
  | ok a l => rw [hF] at h2; obtain ⟨hg, rfl⟩ := h2; exact .inl ⟨_, _, _, _, _, h1, hok a l hF hg⟩
  | no e p => rw [hF] at h2; obtain ⟨he, l, rfl⟩ := h2; exact .inr ⟨_, _, _, _, _, h1, hno e p l hF he⟩
theorem wp_str {F : Res T} {k1 : ByteArray → List (List AV) → Int → Int → Int → Int → KT} (c : RC strV F z d g args H)
    (hok : ∀ u l, F = .ok u l → Gd l → (k1 (bs u) (tks l) z 0 0 d).wp Pg cfg0 evp QD QR) (hno : ∀ e p l, F = .no e p → e ≠ 0 → (k2 (tks l) z e p d).wp Pg cfg0 evp QD QR) :
    (KT.alt (.exS fun s => .exR fun m => .exI fun a => .exI fun e => .exI fun p => .exI fun d' => .call g args .none H ⟨.ret (vS s), .none, [hp5 m a e p d']⟩ (k1 s m a e p d'))
      (.exR fun m => .exI fun a => .exI fun e => .exI fun p => .exI fun d' => .call g args .none H ⟨.panic failV, .none, [hp5 m a e p d']⟩ (k2 m a e p d'))).wp Pg cfg0 evp QD QR := by
  obtain ⟨r, h1, h2⟩ := c
  cases hF : F with
  | ok a l => rw [hF] at h2; obtain ⟨hg, rfl⟩ := h2; exact .inl ⟨_, _, _, _, _, _, h1, hok a l hF hg⟩
  | no e p => rw [hF] at h2; obtain ⟨he, l, rfl⟩ := h2; exact .inr ⟨_, _, _, _, _, h1, hno e p l hF he⟩
theorem wp_path {F : Res (List T × Bool)} {k1 : List (List AV) → Bool → List (List AV) → Int → Int → Int → Int → KT} (c : RC pathV F z d g args H)
    (hok : ∀ u l, F = .ok u l → Gd l → (k1 (u.1.map fun t => [vS (bs t)]) u.2 (tks l) z 0 0 d).wp Pg cfg0 evp QD QR) (hno : ∀ e p l, F = .no e p → e ≠ 0 → (k2 (tks l) z e p d).wp Pg cfg0 evp QD QR) :
    (KT.alt (.exR fun s => .exB fun b => .exR fun m => .exI fun a => .exI fun e => .exI fun p => .exI fun d' => .call g args .none H ⟨.ret (.tuple [.slice 1 s .no, vB b]), .none, [hp5 m a e p d']⟩ (k1 s b m a e p d'))
      (.exR fun m => .exI fun a => .exI fun e => .exI fun p => .exI fun d' => .call g args .none H ⟨.panic failV, .none, [hp5 m a e p d']⟩ (k2 m a e p d'))).wp Pg cfg0 evp QD QR := by
  obtain ⟨r, h1, h2⟩ := c
  cases hF : F with
  | ok a l => rw [hF] at h2; obtain ⟨hg, rfl⟩ := h2; exact .inl ⟨_, _, _, _, _, _, _, h1, hok a l hF hg⟩
  | no e p => rw [hF] at h2; obtain ⟨he, l, rfl⟩ := h2; exact .inr ⟨_, _, _, _, _, h1, hno e p l hF he⟩
end
end Go.Proofs
end

section
/- PARSE, plain: how many nodes types have, how deep they are; their names are short -/
set_option linter.unusedVariables false
set_option linter.unusedSimpArgs false
namespace Go.Pa
open Go.Lx (T Tok)
def tok4 (l : List Tok) : Prop := ∀ t ∈ l, t.text.length ≤ 4096 ∧ t.n < 9223372036854775808
theorem tok4.tail {l : List Tok} (h : tok4 l) : tok4 l.tail := fun t ht => h t (List.mem_of_mem_tail ht)
theorem tok4.head {t : Tok} {l : List Tok} (h : tok4 (t :: l)) : t.text.length ≤ 4096 := (h t (by simp)).1
theorem tok4.headN {t : Tok} {l : List Tok} (h : tok4 (t :: l)) : t.n < 9223372036854775808 := (h t (by simp)).2
def nameOk (n : T) : Prop := n.length ≤ 4096
def pathOk (p : List T) : Prop := p.length ≤ 8 ∧ ∀ w ∈ p, nameOk w
/-- A rule's answer: it is so, it has so many nodes, and what is left is less by as many. -/
def Wt {α : Type} (P : α → Prop) (c : α → Nat) (b : Nat) (x : Res α) : Prop := ∀ a r, x = .ok a r → P a ∧ c a + r.length ≤ b ∧ tok4 r
theorem Wt.ok {α : Type} {P : α → Prop} {c : α → Nat} {b : Nat} {a : α} {r : List Tok} (h1 : P a) (h2 : c a + r.length ≤ b) (h3 : tok4 r) : Wt P c b (.ok a r) := fun _ _ h => by
  injection h with e1 e2; subst e1 e2; exact ⟨h1, h2, h3⟩
theorem Wt.no {α : Type} {P : α → Prop} {c : α → Nat} {b e p : Nat} : Wt P c b (.no e p) := fun _ _ h => by cases h
theorem Wt.bind {α β : Type} {P : α → Prop} {c : α → Nat} {Q : β → Prop} {d : β → Nat} {b b' : Nat} {x : Res α} {f : α → List Tok → Res β} (h : Wt P c b x) (hf : ∀ a r, P a → c a + r.length ≤ b → tok4 r → Wt Q d b' (f a r)) : Wt Q d b' (x.bind f) := fun y r e => by
  obtain ⟨a, r1, h1, h2⟩ := bind_ok.1 e
  obtain ⟨p1, p2, p3⟩ := h a r1 h1
  exact hf a r1 p1 p2 p3 y r h2
theorem Wt.ite {α : Type} {P : α → Prop} {k : α → Nat} {b : Nat} {c : Prop} [Decidable c] {x y : Res α} (h1 : c → Wt P k b x) (h2 : ¬ c → Wt P k b y) : Wt P k b (if c then x else y) := by
  split
  · exact h1 ‹_›
  · exact h2 ‹_›
theorem Wt.need {z : Nat} {w : T} {l : List Tok} (h : tok4 l) : Wt (fun _ => True) (fun _ => 1) l.length (need z w l) := fun a r e => by
  have := need_len e
  unfold Pa.need at e
  split at e
  · injection e with _ e; subst e; exact ⟨trivial, by show 1 + _ ≤ _; omega, h.tail⟩
  · cases e
theorem Wt.taken {z k : Nat} {l : List Tok} (h : tok4 l) : Wt nameOk (fun _ => 1) l.length (taken z k l) := fun a r e => by
  have := taken_len e
  cases l with
  | nil => cases e
  | cons t l =>
    simp only [Pa.taken] at e
    split at e
    · injection e with e1 e2; subst e1 e2; exact ⟨h.head, by simp at *; omega, h.tail⟩
    · cases e
theorem Wt.path {z : Nat} {a b : Bool} {s : Nat} : ∀ (k : Nat) {p : List T} {l : List Tok}, l.length ≤ k → tok4 l → (∀ w ∈ p, nameOk w) → Wt (fun x : List T × Bool => pathOk x.1) (fun _ => 1) l.length (path z a b s p l) := by
  intro k
  induction k with
  | zero => intro p l hk _ _; cases l with
    | nil => unfold Pa.path; exact Wt.no
    | cons t l => simp at hk
  | succ k ih =>
    intro p l hk h4 hp
    cases l with
    | nil => unfold Pa.path; exact Wt.no
    | cons t l =>
      have hp' : ∀ w ∈ p ++ [t.text], nameOk w := fun w hw => by
        rcases List.mem_append.1 hw with hw | hw
        · exact hp w hw
        · simp at hw; subst hw; exact h4.head
      unfold Pa.path
      refine Wt.ite (fun _ => Wt.ite (fun _ => Wt.no) fun h8 => Wt.ite (fun _ => Wt.ok ⟨by simp; omega, hp'⟩ (by simp; omega) h4.tail) fun _ => ?_) fun _ => Wt.no
      split
      · exact Wt.ite (fun _ => Wt.ok ⟨by simp; omega, hp'⟩ (by simp) (fun t ht => by cases ht)) fun _ => Wt.no
      · rename_i d l'
        refine Wt.ite (fun _ x r e => ?_) fun _ => Wt.ite (fun _ => Wt.ok ⟨by simp; omega, hp'⟩ (by simp; omega) h4.tail) fun _ => Wt.no
        obtain ⟨q1, q2, q3⟩ := ih (l := l') (by simp at hk; omega) h4.tail.tail hp' x r e
        have q2' : 1 + r.length ≤ l'.length := q2
        exact ⟨q1, by show 1 + r.length ≤ _; simp; omega, q3⟩
def Ty.cnt : Ty → Nat
  | .var _ => 1
  | .con _ => 1
  | .fn a b => a.cnt + b.cnt + 1
  | .pair a b => a.cnt + b.cnt + 1
def Ty.dep : Ty → Nat
  | .var _ => 1
  | .con _ => 1
  | .fn a b => max a.dep b.dep + 1
  | .pair a b => max a.dep b.dep + 1
def Ty.Ok : Ty → Prop
  | .var n => nameOk n
  | .con p => pathOk p
  | .fn a b => a.Ok ∧ b.Ok
  | .pair a b => a.Ok ∧ b.Ok
end Go.Pa
end

section
/- PARSE: what a text's tokens are like -/
set_option linter.unusedVariables false
set_option linter.unusedSimpArgs false
set_option maxRecDepth 100000
open Go Go.Eng Go.Pa
open Go.Lx (T Tok low high digit one Pieces)
namespace Go.Proofs
theorem one_first {c : UInt8} {r : T} {k n v : Nat} (h : one resP (c :: r) = .ok (k, n, v)) : (k = 1 → low c = true) ∧ (k = 2 → high c = true) ∧ (k = 3 → low c = true) := by
  unfold one at h
  simp only at h
  split at h
  · rename_i hc
    split at h
    · cases h
    · injection h with h; injection h with h1 h
      rw [Bool.or_eq_true] at hc
      by_cases hh : high c = true
      · rw [if_pos hh] at h1; subst h1
        exact ⟨fun h => by omega, fun _ => hh, fun h => by omega⟩
      · have hl : low c = true := by rcases hc with h | h; exact h; exact absurd h hh
        rw [if_neg hh] at h1
        refine ⟨fun _ => hl, fun h2 => ?_, fun _ => hl⟩
        exfalso; rw [h2] at h1; split at h1 <;> omega
  · split at h
    · split at h
      · cases h
      · injection h with h; injection h with h1 h; subst h1
        exact ⟨fun h => by omega, fun h => by omega, fun h => by omega⟩
    · split at h
      · split at h
        · cases h
        · split at h
          · cases h
          · injection h with h; injection h with h1 h; subst h1
            exact ⟨fun h => by omega, fun h => by omega, fun h => by omega⟩
      · split at h
        · injection h with h; injection h with h1 h; subst h1
          exact ⟨fun h => by omega, fun h => by omega, fun h => by omega⟩
        · split at h
          · injection h with h; injection h with h1 h; subst h1
            exact ⟨fun h => by omega, fun h => by omega, fun h => by omega⟩
          · cases h
theorem numFrom_le : ∀ (l : T) (v w : Nat), v ≤ 9223372036854775807 → Lx.numFrom v l = some w → w ≤ 9223372036854775807
  | [], v, w, hv, h => by simp only [Lx.numFrom, Option.some.injEq] at h; omega
  | c :: l, v, w, hv, h => by
    simp only [Lx.numFrom] at h
    split at h
    · exact numFrom_le l _ w (by assumption) h
    · cases h
theorem one_num {l : T} {k n v : Nat} (h : one resP l = .ok (k, n, v)) : v < 9223372036854775808 := by
  by_cases hk : k = 4
  · cases l with
    | nil => simp [one] at h
    | cons c r =>
      unfold one at h
      simp only at h
      split at h
      · split at h
        · cases h
        · injection h with h; injection h with h1 h; injection h with h2 h3; omega
      · split at h
        · split at h
          · cases h
          · rename_i w hw
            injection h with h; injection h with h1 h; injection h with h2 h3
            have := numFrom_le _ _ _ (Nat.zero_le _) hw
            omega
        · split at h
          · split at h
            · cases h
            · split at h
              · cases h
              · injection h with h; injection h with h1 h; injection h with h2 h3; omega
          · split at h
            · injection h with h; injection h with h1 h; injection h with h2 h3; omega
            · split at h
              · injection h with h; injection h with h1 h; injection h with h2 h3; omega
              · cases h
  · have := (Lx.one_bound h).2.2.2.2 hk; omega
theorem pieces_num {l : T} {a : Nat} {ts : List Tok} (h : Pieces resP l a ts) : ∀ t ∈ ts, t.n < 9223372036854775808 := by
  induction h with
  | nil _ => intro t ht; cases ht
  | @cons b x l a k v ts hb h1 hh ho _ ih =>
    intro t ht
    rw [List.mem_cons] at ht
    rcases ht with rfl | ht
    · exact one_num h1
    · exact ih t ht
theorem pieces_gd {l : T} {a : Nat} {ts : List Tok} (h : Pieces resP l a ts) : Gd ts := by
  induction h with
  | nil _ => exact Gd.nil
  | @cons b x l a k v ts hb h1 hh ho _ ih =>
    intro t ht
    rw [List.mem_cons] at ht
    rcases ht with rfl | ht
    · obtain ⟨q1, q2, _⟩ := Lx.one_bound h1
      cases x with
      | nil => simp at q1
      | cons c r =>
        obtain ⟨f1, f2, f3⟩ := one_first (c := c) (r := r ++ l) h1
        exact ⟨fun _ => by simp, fun hk => ⟨c, r, rfl, f1 hk⟩, fun hk => ⟨c, r, rfl, f2 hk⟩, fun hk => ⟨c, r, rfl, f3 hk⟩⟩
    · exact ih t ht
theorem lexA_facts {s : ByteArray} {ts : List Tok} (h : lexA s = .ok ts) : s.size ≤ 4096 ∧ Gd ts ∧ tok4 ts ∧ ts.length ≤ 1024 := by
  obtain ⟨h1, h2, h3⟩ := lexA_ok h
  refine ⟨h1, pieces_gd h2, fun t ht => ?_, h3⟩
  have := h2.places t ht
  rw [tx_len] at this
  exact ⟨by omega, pieces_num h2 t ht⟩
end Go.Proofs
end

section
/- LEX: trees, printed by kt.py out of x4.txt -/
open Go Go.Eng
namespace Go.Proofs
set_option linter.unusedVariables false
set_option maxRecDepth 100000
@[irreducible] noncomputable def Y_Has (l : List (List AV)) (s : ByteArray) : KT := kt3 f_waferref02_Has [.slice 1 l .full, vS s] []
@[irreducible] noncomputable def Y_rnumber (s : ByteArray) : KT := kt3 f_waferref03_number [vS s] []
@[irreducible] noncomputable def Y_rmarks1 (s : ByteArray) (a : Nat) : KT := (kt3 f_waferref03_mark [vS s, vI a] []).K ⟨tm2 33 [(0, (vS (s))), (1, (vI ((↑a : Int))))], lm2 33 [], ⟨[], [], .none, 0⟩⟩
@[irreducible] noncomputable def Y_rnextD (s : ByteArray) (a : Nat) (y : UInt8) (b : Bool) (y1 : UInt8) (b1 : Bool) (y2 y3 : UInt8) (b2 : Bool) : KT := (((((((((kt3 f_waferref03_next [vS s, vI a] []).T.Y y).T.B b).T.F.Y y1).T.B b1).T.F.Y y2).T.F.Y y3).T.B b2).T.T)
@[irreducible] noncomputable def Y_rLex (s : ByteArray) (i : Int) (b : Bool) : KT := ((((kt3 f_waferref03_Lex [vS s] []).F.I i).B b).T)
@[irreducible] noncomputable def Y_rnextK (s : ByteArray) (a : Nat) (q i : Int) : KT := (kt3 f_waferref03_next [vS s, vI a] []).K ⟨tm2 126 [(0, (vS (s))), (1, (vI ((↑a : Int)))), (4, (.lp 4 0 0)), (6, (.lp 6 0 0)), (7, (vI (i)))], lm2 126 [(4, (0, [(vI (0)), (vS ((⟨#[]⟩ : ByteArray))), (vI (0)), (vI (0))])), (6, (0, [(vI (q)), (vS ((⟨#[]⟩ : ByteArray))), (vI (0)), (vI ((↑a : Int)))]))], ⟨[], [], .none, 0⟩⟩
theorem X_HasR_eq (l : List (List AV)) (s : ByteArray) (i : Nat) : KT.round Pg cfg0 rs0 kc3 (Y_Has l s) { tmps := tm2 18 [(0, AV.slice 1 l Own.full), (1, vS s), (5, vI (↑i : Int))], lh := lm2 18 [], g := { H := [], defers := [], rm := RM.none, base := 0 } } =
 (.branch (decide ((↑i : Int) < (↑l.length : Int)))
 (.exS fun s1 =>
 (.row (l) ((↑i : Int)) [(vS (s1))]
 (.branch (s1.toList == s.toList)
 (.out (.need true
 (.ret ⟨(.ret (vB true)), .none, []⟩)))
 (.done ⟨tm2 18 [(0, (.slice 1 (l) .full)), (1, (vS (s))), (5, (vI (IntKind.i64.wrap ((↑i : Int) + 1))))], lm2 18 [], ⟨[], [], .none, 0⟩⟩))))
 (.out (.need true
 (.ret ⟨(.ret (vB false)), .none, []⟩)))) := by kernel_rfl
theorem X_rnumberR_eq (s : ByteArray) (v : Nat) (i : Nat) : KT.round Pg cfg0 rs0 kc3 (Y_rnumber s) { tmps := tm2 29 [(0, vS s), (4, AV.val (Value.int IntKind.u64 (↑v : Int))), (5, vI (↑i : Int))], lh := lm2 29 [], g := { H := [], defers := [], rm := RM.none, base := 0 } } =
 (.branch (decide ((↑i : Int) < (↑s.size : Int)))
 (.exY fun y =>
 (.byte (s) ((↑i : Int)) (y)
 (.branch (decide ((↑v : Int) > IntKind.u64.wrap ((IntKind.u64.wrap (9223372036854775807 - IntKind.u64.wrap (IntKind.u8.wrap ((↑y.toNat : Int) - 48)))).tdiv 10)))
 (.out (.need true
 (.ret ⟨(.ret (.tuple [(vI (0)), (vB false)])), .none, []⟩)))
 (.done ⟨tm2 29 [(0, (vS (s))), (4, (.val (.int .u64 (IntKind.u64.wrap (IntKind.u64.wrap (10 * (↑v : Int)) + IntKind.u64.wrap (IntKind.u8.wrap ((↑y.toNat : Int) - 48))))))), (5, (vI (IntKind.i64.wrap ((↑i : Int) + 1))))], lm2 29 [], ⟨[], [], .none, 0⟩⟩))))
 (.out (.need true
 (.ret ⟨(.ret (.tuple [(vI (IntKind.i64.wrap (↑v : Int))), (vB true)])), .none, []⟩)))) := by kernel_rfl
theorem X_rmarkR_eq (s : ByteArray) (a : Nat) (i : Nat) : KT.round Pg cfg0 rs0 kc3 (Y_rmarks1 s a) { tmps := tm2 33 [(0, vS s), (1, vI (↑a : Int)), (5, vS (⟨#[40, 41, 44, 59, 58, 61, 42, 43, 45, 47, 60, 124, 95, 46]⟩ : ByteArray)), (6, vI (↑i : Int))], lh := lm2 33 [], g := { H := [], defers := [], rm := RM.none, base := 0 } } =
 (.branch (decide ((↑i : Int) < (↑(⟨#[40, 41, 44, 59, 58, 61, 42, 43, 45, 47, 60, 124, 95, 46]⟩ : ByteArray).size : Int)))
 (.exY fun y =>
 (.byte ((⟨#[40, 41, 44, 59, 58, 61, 42, 43, 45, 47, 60, 124, 95, 46]⟩ : ByteArray)) ((↑i : Int)) (y)
 (.exY fun y1 =>
 (.byte (s) ((↑a : Int)) (y1)
 (.branch ((↑y.toNat : Int) == (↑y1.toNat : Int))
 (.out (.need true
 (.ret ⟨(.ret (vI (1))), .none, []⟩)))
 (.done ⟨tm2 33 [(0, (vS (s))), (1, (vI ((↑a : Int)))), (5, (vS ((⟨#[40, 41, 44, 59, 58, 61, 42, 43, 45, 47, 60, 124, 95, 46]⟩ : ByteArray)))), (6, (vI (IntKind.i64.wrap ((↑i : Int) + 1))))], lm2 33 [], ⟨[], [], .none, 0⟩⟩))))))
 (.out (.need true
 (.ret ⟨(.ret (vI (0))), .none, []⟩)))) := by kernel_rfl
theorem X_rnextDR_eq (s : ByteArray) (a : Nat) (y : UInt8) (b : Bool) (y1 : UInt8) (b1 : Bool) (y2 : UInt8) (y3 : UInt8) (b2 : Bool) (i : Nat) : KT.round Pg cfg0 rs0 kc3 (Y_rnextD s a y b y1 b1 y2 y3 b2) { tmps := tm2 126 [(0, vS s), (1, vI (↑a : Int)), (4, AV.lp 4 0 0), (6, AV.lp 6 0 0), (7, vI (↑i : Int))], lh := lm2 126 [(4, 0, [vI 0, vS (⟨#[]⟩ : ByteArray), vI 0, vI 0]), (6, 0, [vI 0, vS (⟨#[]⟩ : ByteArray), vI 0, vI (↑a : Int)])], g := { H := [], defers := [], rm := RM.none, base := 0 } } =
 (.branch (decide ((↑i : Int) < (↑s.size : Int)))
 (.exY fun y4 =>
 (.byte (s) ((↑i : Int)) (y4)
 (.exB fun b3 =>
 (.call f_waferref03_digit [(.val (.int .u8 ((↑y4.toNat : Int))))] .none [] ⟨(.ret (vB (b3))), .none, []⟩
 (.branch (b3)
 (.done ⟨tm2 126 [(0, (vS (s))), (1, (vI ((↑a : Int)))), (4, (.lp 4 0 0)), (6, (.lp 6 0 0)), (7, (vI (IntKind.i64.wrap ((↑i : Int) + 1))))], lm2 126 [(4, (0, [(vI (0)), (vS ((⟨#[]⟩ : ByteArray))), (vI (0)), (vI (0))])), (6, (0, [(vI (0)), (vS ((⟨#[]⟩ : ByteArray))), (vI (0)), (vI ((↑a : Int)))]))], ⟨[], [], .none, 0⟩⟩)
 (.out (.need (decide (0 ≤ (↑a : Int) ∧ (↑a : Int) ≤ (↑i : Int) ∧ (↑i : Int) ≤ (↑s.size : Int)))
 (.exI fun i1 =>
 (.exB fun b4 =>
 (.call f_waferref03_number [(vS (s.extract (↑a : Int).toNat (↑i : Int).toNat))] .none [] ⟨(.ret (.tuple [(vI (i1)), (vB (b4))])), .none, []⟩
 (.branch (!b4)
 (.out (.need true
 (.ret ⟨(.ret (.tuple [(.agg [(vI (0)), (vS ((⟨#[]⟩ : ByteArray))), (vI (0)), (vI ((↑a : Int)))]), (vI (1))])), .none, []⟩)))
 (.need (decide (0 ≤ (↑a : Int) ∧ (↑a : Int) ≤ (↑i : Int) ∧ (↑i : Int) ≤ (↑s.size : Int)))
 (.out (.need true
 (.ret ⟨(.ret (.tuple [(.agg [(vI (4)), (vS (s.extract (↑a : Int).toNat (↑i : Int).toNat)), (vI (i1)), (vI ((↑a : Int)))]), (vI (0))])), .none, []⟩)))))))))))))))
 (.out (.need (decide (0 ≤ (↑a : Int) ∧ (↑a : Int) ≤ (↑i : Int) ∧ (↑i : Int) ≤ (↑s.size : Int)))
 (.exI fun i1 =>
 (.exB fun b3 =>
 (.call f_waferref03_number [(vS (s.extract (↑a : Int).toNat (↑i : Int).toNat))] .none [] ⟨(.ret (.tuple [(vI (i1)), (vB (b3))])), .none, []⟩
 (.branch (!b3)
 (.out (.need true
 (.ret ⟨(.ret (.tuple [(.agg [(vI (0)), (vS ((⟨#[]⟩ : ByteArray))), (vI (0)), (vI ((↑a : Int)))]), (vI (1))])), .none, []⟩)))
 (.need (decide (0 ≤ (↑a : Int) ∧ (↑a : Int) ≤ (↑i : Int) ∧ (↑i : Int) ≤ (↑s.size : Int)))
 (.out (.need true
 (.ret ⟨(.ret (.tuple [(.agg [(vI (4)), (vS (s.extract (↑a : Int).toNat (↑i : Int).toNat)), (vI (i1)), (vI ((↑a : Int)))]), (vI (0))])), .none, []⟩))))))))))) := by kernel_rfl
theorem X_rLexR_eq (s : ByteArray) (i0 : Int) (b0 : Bool) (l : List (List AV)) (i : Nat) (b : Bool) : KT.round Pg cfg0 rs0 kc3 (Y_rLex s i0 b0) { tmps := tm2 57 [(0, vS s), (5, AV.slice 4 l Own.yes), (6, vI (↑i : Int)), (7, vB b)], lh := lm2 57 [], g := { H := [], defers := [], rm := RM.none, base := 0 } } =
 (.branch (b)
 (.branch (decide ((↑i : Int) < (↑s.size : Int)))
 (.exI fun i1 =>
 (.exS fun s1 =>
 (.exI fun i2 =>
 (.exI fun i3 =>
 (.exI fun i4 =>
 (.call f_waferref03_next [(vS (s)), (vI ((↑i : Int)))] .none [] ⟨(.ret (.tuple [(.agg [(vI (i1)), (vS (s1)), (vI (i2)), (vI (i3))]), (vI (i4))])), .none, []⟩
 (.branch (i4 != 0)
 (.out (.need true
 (.ret ⟨(.ret (.tuple [(.slice 4 [] .no), (vI ((↑i : Int))), (vI (i4))])), .none, []⟩)))
 (.branch ((↑l.length : Int) == 1024)
 (.out (.need true
 (.ret ⟨(.ret (.tuple [(.slice 4 [] .no), (vI ((↑i : Int))), (vI (3))])), .none, []⟩)))
 (.need ((l.length + [[(AV.val (Value.int IntKind.i64 i1)).dis.dis.dis, (AV.val (Value.string s1)).dis.dis.dis, (AV.val (Value.int IntKind.i64 i2)).dis.dis.dis, (AV.val (Value.int IntKind.i64 i3)).dis.dis.dis]].length).ble 2147483648)
 (.exI fun i5 =>
 (.exB fun b1 =>
 (.call f_waferref03_skip [(vS (s)), (vI (IntKind.i64.wrap ((↑i : Int) + (↑s1.size : Int))))] .none [] ⟨(.ret (.tuple [(vI (i5)), (vB (b1))])), .none, []⟩
 (.done ⟨tm2 57 [(0, (vS (s))), (5, (.slice 4 (l ++ List.map (fun x => List.map AV.dis x) [[(AV.val (Value.int IntKind.i64 i1)).dis.dis.dis, (AV.val (Value.string s1)).dis.dis.dis, (AV.val (Value.int IntKind.i64 i2)).dis.dis.dis, (AV.val (Value.int IntKind.i64 i3)).dis.dis.dis]]) .yes)), (6, (vI (i5))), (7, (vB (b1)))], lm2 57 [], ⟨[], [], .none, 0⟩⟩)))))))))))))
 (.out (.branch (!b)
 (.need true
 (.ret ⟨(.ret (.tuple [(.slice 4 [] .no), (vI ((↑i : Int))), (vI (10))])), .none, []⟩))
 (.need true
 (.ret ⟨(.ret (.tuple [(.slice 4 (l) .no), (vI (0)), (vI (0))])), .none, []⟩)))))
 (.out (.branch (!b)
 (.need true
 (.ret ⟨(.ret (.tuple [(.slice 4 [] .no), (vI ((↑i : Int))), (vI (10))])), .none, []⟩))
 (.need true
 (.ret ⟨(.ret (.tuple [(.slice 4 (l) .no), (vI (0)), (vI (0))])), .none, []⟩))))) := by kernel_rfl
theorem X_rLexR0_eq (s : ByteArray) (i0 : Int) (b0 : Bool) (i : Nat) (b : Bool) : KT.round Pg cfg0 rs0 kc3 (Y_rLex s i0 b0) { tmps := tm2 57 [(0, vS s), (5, AV.slice 0 [] Own.full), (6, vI (↑i : Int)), (7, vB b)], lh := lm2 57 [], g := { H := [], defers := [], rm := RM.none, base := 0 } } =
 (.branch (b)
 (.branch (decide ((↑i : Int) < (↑s.size : Int)))
 (.exI fun i1 =>
 (.exS fun s1 =>
 (.exI fun i2 =>
 (.exI fun i3 =>
 (.exI fun i4 =>
 (.call f_waferref03_next [(vS (s)), (vI ((↑i : Int)))] .none [] ⟨(.ret (.tuple [(.agg [(vI (i1)), (vS (s1)), (vI (i2)), (vI (i3))]), (vI (i4))])), .none, []⟩
 (.branch (i4 != 0)
 (.out (.need true
 (.ret ⟨(.ret (.tuple [(.slice 4 [] .no), (vI ((↑i : Int))), (vI (i4))])), .none, []⟩)))
 (.branch ((↑([] : List (List AV)).length : Int) == 1024)
 (.out (.need true
 (.ret ⟨(.ret (.tuple [(.slice 4 [] .no), (vI ((↑i : Int))), (vI (3))])), .none, []⟩)))
 (.need true
 (.exI fun i5 =>
 (.exB fun b1 =>
 (.call f_waferref03_skip [(vS (s)), (vI (IntKind.i64.wrap ((↑i : Int) + (↑s1.size : Int))))] .none [] ⟨(.ret (.tuple [(vI (i5)), (vB (b1))])), .none, []⟩
 (.done ⟨tm2 57 [(0, (vS (s))), (5, (.slice 4 [[(vI (i1)), (vS (s1)), (vI (i2)), (vI (i3))]] .yes)), (6, (vI (i5))), (7, (vB (b1)))], lm2 57 [], ⟨[], [], .none, 0⟩⟩)))))))))))))
 (.out (.branch (!b)
 (.need true
 (.ret ⟨(.ret (.tuple [(.slice 4 [] .no), (vI ((↑i : Int))), (vI (10))])), .none, []⟩))
 (.need true
 (.ret ⟨(.ret (.tuple [(.slice 4 [] .no), (vI (0)), (vI (0))])), .none, []⟩)))))
 (.out (.branch (!b)
 (.need true
 (.ret ⟨(.ret (.tuple [(.slice 4 [] .no), (vI ((↑i : Int))), (vI (10))])), .none, []⟩))
 (.need true
 (.ret ⟨(.ret (.tuple [(.slice 4 [] .no), (vI (0)), (vI (0))])), .none, []⟩))))) := by kernel_rfl
theorem X_rhigh_eq (c : UInt8) : kt3 f_waferref03_high [AV.val (Value.int IntKind.u8 (↑c.toNat : Int))] [] =
 (.branch (decide ((↑c.toNat : Int) ≥ 65))
 (.need true
 (.ret ⟨(.ret (vB (decide ((↑c.toNat : Int) ≤ 90)))), .none, []⟩))
 (.need true
 (.ret ⟨(.ret (vB false)), .none, []⟩))) := by kernel_rfl
theorem X_rdigit_eq (c : UInt8) : kt3 f_waferref03_digit [AV.val (Value.int IntKind.u8 (↑c.toNat : Int))] [] =
 (.branch (decide ((↑c.toNat : Int) ≥ 48))
 (.need true
 (.ret ⟨(.ret (vB (decide ((↑c.toNat : Int) ≤ 57)))), .none, []⟩))
 (.need true
 (.ret ⟨(.ret (vB false)), .none, []⟩))) := by kernel_rfl
theorem X_rnextK_eq (s : ByteArray) (a : Nat) (q : Int) (i : Int) : Y_rnextK s a q i =
 (.need (decide (0 ≤ (↑a : Int) ∧ (↑a : Int) ≤ i ∧ i ≤ (↑s.size : Int)))
 (.branch (i == (↑a : Int))
 (.need true
 (.ret ⟨(.ret (.tuple [(.agg [(vI (q)), (vS (s.extract (↑a : Int).toNat i.toNat)), (vI (0)), (vI ((↑a : Int)))]), (vI (10))])), .none, []⟩))
 (.branch (q != 6)
 (.branch (decide ((↑(s.extract (↑a : Int).toNat i.toNat).size : Int) > 32))
 (.need true
 (.ret ⟨(.ret (.tuple [(.agg [(vI (q)), (vS (s.extract (↑a : Int).toNat i.toNat)), (vI (0)), (vI ((↑a : Int)))]), (vI (12))])), .none, []⟩))
 (.need true
 (.ret ⟨(.ret (.tuple [(.agg [(vI (q)), (vS (s.extract (↑a : Int).toNat i.toNat)), (vI (0)), (vI ((↑a : Int)))]), (vI (0))])), .none, []⟩)))
 (.need true
 (.ret ⟨(.ret (.tuple [(.agg [(vI (q)), (vS (s.extract (↑a : Int).toNat i.toNat)), (vI (0)), (vI ((↑a : Int)))]), (vI (0))])), .none, []⟩))))) := by kernel_rfl
end Go.Proofs
end
