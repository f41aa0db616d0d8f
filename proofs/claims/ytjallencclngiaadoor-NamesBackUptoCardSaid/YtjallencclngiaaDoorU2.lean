/-
  The iterator that strings.SplitSeq(s, ".") makes: it hands the parts of s between the dots to a body that goes on.
-/
import Derived.Test.YtjallencclngiaaDoorU1
import Derived.RangeFuncNested
import Derived.RangeFuncBound
import Derived.RangeFuncCalls
import Derived.RangeFuncLeaves
import Derived.Shelf.Abstract
import Derived.Shelf.RegionOpen
import Derived.WalkKit
import Derived.OwnWalkIn
import Derived.TacticsInMore
import Derived.LoopNIn
import Derived.LoopIn
set_option linter.unusedVariables false
set_option linter.unusedSimpArgs false
namespace Go.Proofs
open Go.RowKit Go.Shelf
attribute [local go_sem] Oper.semAt_some

/-- A block of memory whose cells are known. -/
def Blk (W : World) (B : Nat) (t : TypeId) (cs : Array Value) : Prop := W.heap[B]? = some (.cells cs t (0, 0))
theorem Blk.kept {W W' : World} {B : Nat} {t : TypeId} {cs : Array Value} {row : Option Nat} (h : Blk W B t cs) (hg : W.grownBy W' row) (hne : some B ≠ row) : Blk W' B t cs := (hg.block B (Array.getElem?_eq_some_iff.1 h).1 hne).trans h
theorem blk_own {β : Type} (B : Nat) (t : TypeId) (f : β → Array Value) : Own (fun s W => Blk W B t (f s)) := fun s X Y row hs hg hrow =>
  hs.kept hg (fun e' => by obtain ⟨o, ho, hc⟩ := hrow B e'.symm; rw [show X.heap[B]? = _ from hs] at ho; cases ho; cases hc)
theorem Blk.cell {W : World} {B : Nat} {t : TypeId} {cs : Array Value} (h : Blk W B t cs) (j : Nat) : W.cell? ⟨B, j, none⟩ = cs[j]? := by
  unfold Blk at h
  simp [World.cell?, h]
theorem Blk.frozen {W : World} {B : Nat} {t : TypeId} {cs : Array Value} (h : Blk W B t cs) (j : Nat) : W.frozen? ⟨B, j, none⟩ = false := by
  unfold Blk at h
  simp [World.frozen?, h]
theorem Blk.new (W : World) (t : TypeId) (cs : Array Value) : Blk (W.alloc (.cells cs t)) W.heap.size t cs := World.alloc_heap_new W _
theorem Blk.alloc {W : World} {B : Nat} {t : TypeId} {cs : Array Value} (h : Blk W B t cs) (o : Obj) : Blk (W.alloc o) B t cs := (Below.heap_alloc W o B (Array.getElem?_eq_some_iff.1 h).1).trans h
theorem Blk.below {W W' : World} {B : Nat} {t : TypeId} {cs : Array Value} (h : Blk W B t cs) (hb : Below W.heap.size W W') : Blk W' B t cs := (hb.block B (Array.getElem?_eq_some_iff.1 h).1).trans h
theorem Blk.lt {W : World} {B : Nat} {t : TypeId} {cs : Array Value} (h : Blk W B t cs) : B < W.heap.size := (Array.getElem?_eq_some_iff.1 h).1

theorem Blk.set {W : World} {B : Nat} {t : TypeId} {cs : Array Value} (h : Blk W B t cs) (j : Nat) (v : Value) : Blk (W.setCell ⟨B, j, none⟩ v) B t (cs.setIfInBounds j v) := by
  unfold Blk at *
  simp [World.setCell, Array.getElem?_modify, h]
theorem Blk.other {W : World} {B B' j : Nat} {t : TypeId} {cs : Array Value} (h : Blk W B t cs) (hne : B ≠ B') (v : Value) : Blk (W.setCell ⟨B', j, none⟩ v) B t cs := by
  unfold Blk at *
  simp [World.setCell, Array.getElem?_modify, h, hne.symm]
theorem Blk.drew {W : World} {B : Nat} {t : TypeId} {cs : Array Value} (h : Blk W B t cs) : Blk W.drew B t cs := h

def dotAt (s : ByteArray) (a : Nat) : Int := Lib.indexByte (s.extract a s.size).data.toList 46
theorem dotAt_room {s : ByteArray} {a i : Nat} (h : dotAt s a = i) (ha : a ≤ s.size) : a + i < s.size := by
  have := idx_room (s.extract a s.size) h
  simp at this
  omega
/-- The parts of s from a on, between the dots. -/
def prtsGo (s : ByteArray) : Nat → (a : Nat) → List ByteArray
  | 0, _ => []
  | f + 1, a => if dotAt s a = -1 then [s.extract a s.size] else s.extract a (a + (dotAt s a).toNat) :: prtsGo s f (a + (dotAt s a).toNat + 1)
def prts (s : ByteArray) : List ByteArray := prtsGo s (s.size + 1) 0
theorem prtsGo_hit (s : ByteArray) (f a i : Nat) (h : dotAt s a = i) : prtsGo s (f + 1) a = s.extract a (a + i) :: prtsGo s f (a + i + 1) := by
  rw [prtsGo, if_neg (by omega), h]; rfl
theorem prtsGo_miss (s : ByteArray) (f a : Nat) (h : dotAt s a = -1) : prtsGo s (f + 1) a = [s.extract a s.size] := by
  rw [prtsGo, if_pos h]

/-- What is left to be parted: the length of the text in the iterator's own box. -/
def leftAt (Bs : Nat) (W : World) : Nat := match W.cell? ⟨Bs, 0, none⟩ with
  | some (.string t) => t.size
  | _ => 0
theorem leftAt_of {Bs : Nat} {W : World} {t : ByteArray} (h : Blk W Bs 9 #[.string t]) : leftAt Bs W = t.size := by
  unfold leftAt; rw [h.cell 0]; rfl

set_option maxHeartbeats 2000000 in
set_option maxRecDepth 100000 in
theorem split1 (m : Nat) (s : ByteArray) (hs : s.size ≤ 140737488351232) (l Bs Bd Bn : Nat) (J : List ByteArray → World → Prop) (hsd : Bs ≠ Bd) (hsn : Bs ≠ Bn)
    (hJ : ∀ pre W v, J pre W → J pre (W.setCell ⟨Bs, 0, none⟩ v)) (hJd : ∀ pre W, J pre W → J pre W.drew)
    (hY : ∀ pre x W1, J pre W1 → pre.length ≤ s.size → YieldAt Fence.wide (m - 1) Tryd.prog l #[.string x] W1 fun e W' =>
      e = .returned (.bool true) ∧ J (pre ++ [x]) W' ∧ (∀ t, Blk W1 Bs 9 t → Blk W' Bs 9 t) ∧ (∀ t, Blk W1 Bd 9 t → Blk W' Bd 9 t) ∧ (∀ t, Blk W1 Bn 3 t → Blk W' Bn 3 t))
    (W : World) (hBs : Blk W Bs 9 #[.string s]) (hBd : Blk W Bd 9 #[.string ⟨#[46]⟩]) (hBn : Blk W Bn 3 #[.int .i64 0]) (h0 : J [] W) :
    CallsIn Fence.wide m Tryd.prog 110 #[.func (.yield l) #[] #[], .pointer (some ⟨Bd, 0, none⟩), .pointer (some ⟨Bs, 0, none⟩), .pointer (some ⟨Bn, 0, none⟩)] W fun e W' => (∃ v, e = .returned v) ∧ J (prts s) W' := by
  refine callsIn_of_wp Tryd.func110 rfl trivial ?_ rfl
  simp only [Tryd.ntmps110, List.size_toArray, List.length_cons, List.length_nil, Nat.reduceAdd, Nat.reduceSub, Array.replicate_succ, Array.replicate_zero, List.push_toArray, List.append_toArray, List.nil_append, List.cons_append]
  have hfn : ∀ k, Fence.wide.fn k := fun _ => trivial
  have hdep : Fence.wide.depth.isSome = false := rfl
  have c1 := hBs.cell 0
  have c2 := hBd.cell 0
  have c3 := hBn.cell 0
  gi_wp2
  gi_loopw [7, 8] (fun p q wr => ∃ (pre : List ByteArray) (a f : Nat), a ≤ s.size ∧ pre.length ≤ a ∧ s.size - a ≤ f ∧ prts s = pre ++ prtsGo s (f + 1) a ∧ Blk wr Bs 9 #[.string (s.extract a s.size)] ∧ Blk wr Bd 9 #[.string ⟨#[46]⟩] ∧ Blk wr Bn 3 #[.int .i64 0] ∧ J pre wr)
    (fun _ _ wr => leftAt Bs wr)
  case atStart => exact ⟨[], 0, s.size, by omega, by simp, by omega, rfl, by simpa using hBs, hBd, hBn, h0⟩
  case round =>
    obtain ⟨pre, a, f, ha, hpl, hf, hx, b1, b2, b3, hJr⟩ := hrel
    have d1 := b1.cell 0
    have d2 := b2.cell 0
    have d3 := b3.cell 0
    have Hx := Lib.hid hx
    clear hx c1 c2 c3
    have hL := leftAt_of b1
    rcases Classical.em (dotAt s a = -1) with hm | hm
    · obtain ⟨fn, tmps, assign, body, hy, hR⟩ := hY pre (s.extract a s.size) wr hJr (by omega)
      have hm2 : Lib.indexByte (s.extract a s.size).data.toList 46 = -1 := hm
      gi_wp2_with (gi_at_call 112; refine (callsIn_wide.2 (index_dot _ _)).mono ?_; rintro e w' ⟨rfl, rfl⟩; rw [hm2])
      refine hR.mono ?_
      rintro e W3 ⟨rfl, hJ3, k1, k2, k3⟩
      gi_wp2
      go_end0
      refine ⟨⟨_, rfl⟩, ?_⟩
      rw [Hx.out, prtsGo_miss _ _ _ hm]
      exact hJ3
    · obtain ⟨i, hi⟩ : ∃ i : Nat, dotAt s a = i := ⟨(dotAt s a).toNat, by have := Lib.indexByte_ge (s.extract a s.size).data.toList 46; unfold dotAt at *; omega⟩
      clear hm
      have hroom := dotAt_room hi ha
      have hi2 : Lib.indexByte (s.extract a s.size).data.toList 46 = (i : Int) := hi
      obtain ⟨fn, tmps, assign, body, hy, hR⟩ := hY pre ((s.extract a s.size).extract 0 i) wr hJr (by omega)
      have hcut : (s.extract a s.size).extract 0 i = s.extract a (a + i) := by
        rw [ByteArray.extract_extract]; congr 1 <;> omega
      have hcut2 : (s.extract a s.size).extract (i + 1) (s.size - a) = s.extract (a + i + 1) s.size := by
        rw [ByteArray.extract_extract]; congr 1 <;> omega
      have Hcut := Lib.hid hcut
      have Hcut2 := Lib.hid hcut2
      have Hi := Lib.hid hi2
      clear hcut hcut2 hi2 hi
      gi_wp2_with (gi_at_call 112; refine (callsIn_wide.2 (index_dot _ _)).mono ?_; rintro e w' ⟨rfl, rfl⟩; rw [Hi.out])
      refine hR.mono ?_
      rintro e W3 ⟨rfl, hJ3, k1, k2, k3⟩
      have e1 := k1 _ b1
      have e2 := k2 _ b2
      have e3 := k3 _ b3
      have g1 := e1.cell 0
      have g2 := e2.cell 0
      have g4 := e1.frozen 0
      gi_wp2
      have e4 : Blk (W3.setCell ⟨Bs, 0, none⟩ (.string ((s.extract a s.size).extract (i + 1) (s.size - a)))) Bs 9 #[.string (s.extract (a + i + 1) s.size)] := by
        rw [Hcut2.out]; exact e1.set 0 _
      go_roundw
      case rel =>
        refine ⟨pre ++ [s.extract a (a + i)], a + i + 1, f - 1, by omega, by simp; omega, by omega, ?_, e4, e2.other hsd.symm _, e3.other hsn.symm _, hJ _ _ _ (by rw [Hcut.out] at hJ3; exact hJ3)⟩
        obtain ⟨f, rfl⟩ : ∃ g, f = g + 1 := ⟨f - 1, by omega⟩
        rw [Hx.out, prtsGo_hit _ _ _ _ Hi.out]
        simp
      case measure =>
        rw [leftAt_of e4, hL]
        simp
        omega
end Go.Proofs
