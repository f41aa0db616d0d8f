/-
  THE ENGINE, part 22: aids to such loops; slots written short.
-/
import Derived.Test.YtjallencclngiaaGreatE21
import Derived.IntWalk
set_option linter.unusedVariables false
set_option linter.unusedSimpArgs false
namespace Go.Eng

def tmFrom : Nat → Nat → List (Nat × AV) → List AV
  | _, 0, _ => []
  | i, n + 1, l => (match l.lookup i with | some v => v | none => .any) :: tmFrom (i + 1) n l

/-- n slots of which these are known. -/
def tm (n : Nat) (l : List (Nat × AV)) : List AV := tmFrom 0 n l

/-- The state at a loop's head. -/
def at0 (n : Nat) (l : List (Nat × AV)) (H : Heap) : St := ⟨tm n l, List.replicate n none, ⟨H, [], .none⟩⟩

def sI (n : Int) : AV := .val (.int .i64 n)
def sB (b : Bool) : AV := .val (.bool b)

theorem bytes_eq (a b : ByteArray) : (a.toList == b.toList) = decide (a = b) := by
  rw [ByteArray.toList_eq, ByteArray.toList_eq]
  by_cases e : a = b
  · subst e; simp
  · simp only [e, decide_false, beq_eq_false_iff_ne, ne_eq]
    intro h
    apply e
    have : a.data = b.data := Array.toList_inj.1 h
    cases a; cases b; simp_all

theorem wrap_succ {i : Nat} (h : i < 9223372036854775807) : IntKind.i64.wrap ((i : Int) + 1) = ((i + 1 : Nat) : Int) := by
  rw [IntKind.wrap_i64]; omega

section
variable {call : CallF} {QD : AX → St → Prop} {QR : CRes → Prop} {α β : Type}

theorem wp_lens {X : List (List AV)} {Y : List (List AV)} {xs : List α} {ys : List β} {s : St} {H : Heap} (hX : X.length = xs.length) (hY : Y.length = ys.length) :
    (Tr.branch ((X.length : Int) != (Y.length : Int)) (.ret (retB false H)) (.done .normal s)).wp call (fun _ s0 => xs.length = ys.length ∧ s0 = s) (fun r => xs.length ≠ ys.length ∧ r = retB false H) := by
  rw [hX, hY]
  refine ⟨fun h => ⟨?_, rfl⟩, fun h => ⟨?_, rfl⟩⟩
  · simp only [bne_iff_ne, ne_eq] at h
    intro e; exact h (by rw [e])
  · simp only [bne_eq_false_iff_eq] at h
    exact Int.ofNat.inj h

theorem wp_lt {i n : Nat} {t e : Tr} (h : i < n) (ht : t.wp call QD QR) : (Tr.branch (decide ((i : Int) < (n : Int))) t e).wp call QD QR :=
  ⟨fun _ => ht, fun hn => by have := of_decide_eq_false hn; omega⟩

theorem wp_ge {n : Nat} {t e : Tr} (he : e.wp call QD QR) : (Tr.branch (decide ((n : Int) < (n : Int))) t e).wp call QD QR :=
  ⟨fun hn => by have := of_decide_eq_true hn; omega, fun _ => he⟩

theorem wp_row {X : List (List AV)} {i : Nat} {shape : List CSh} {k : Lf → Tr} (lf : Lf) (hx : X[i]? = some (mkRow lf 0 shape)) (h : (k lf).wp call QD QR) : (Tr.row X (i : Int) shape k).wp call QD QR :=
  ⟨lf, Int.natCast_nonneg i, by rw [Int.toNat_natCast]; exact hx, h⟩

theorem wp_callB {g : FuncId} {args : List AV} {H H' : Heap} {b : Bool} {k : Bool → Heap → Tr} (hc : call g args .none H = some (retB b H')) (h : (k b H').wp call QD QR) : (Tr.callB g args H k).wp call QD QR :=
  ⟨b, _, H', hc, h⟩

theorem wp_eq {t t' : Tr} (h : t = t') (w : t'.wp call QD QR) : t.wp call QD QR := h ▸ w

theorem wp_if {b : Bool} {t f : Tr} (ht : b = true → t.wp call QD QR) (hf : b = false → f.wp call QD QR) : (Tr.branch b t f).wp call QD QR := ⟨ht, hf⟩

theorem map_at {f : α → List AV} {xs : List α} {i : Nat} {x : α} (h : xs[i]? = some x) : (xs.map f)[i]? = some (f x) := by rw [List.getElem?_map, h]; rfl
end
end Go.Eng
