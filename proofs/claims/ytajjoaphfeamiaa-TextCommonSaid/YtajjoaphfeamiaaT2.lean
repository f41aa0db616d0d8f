import Derived.Test.YtajjoaphfeamiaaT1
import Derived.RangeFuncNested
import Derived.RangeFuncBound
import Derived.RangeFuncCalls
import Derived.RangeFuncLeaves
import Derived.Shelf.Abstract
import Derived.Shelf.RegionOpen
import Derived.WalkKit
import Derived.OwnWalkIn
import Derived.TacticsInMore
import Derived.LoopNIn
import Derived.LoopIn
namespace Go.Proofs
open Go.RowKit Go.Shelf
attribute [local go_sem] Oper.semAt_some

/-- A block of memory whose cells are known. -/
def Blk (W : World) (B : Nat) (t : TypeId) (cs : Array Value) : Prop := W.heap[B]? = some (.cells cs t (0, 0))
theorem Blk.kept {W W' : World} {B : Nat} {t : TypeId} {cs : Array Value} {row : Option Nat} (h : Blk W B t cs) (hg : W.grownBy W' row) (hne : some B ≠ row) : Blk W' B t cs := (hg.block B (Array.getElem?_eq_some_iff.1 h).1 hne).trans h
theorem blk_own {β : Type} (B : Nat) (t : TypeId) (f : β → Array Value) : Own (fun s W => Blk W B t (f s)) := fun s X Y row hs hg hrow =>
  hs.kept hg (fun e' => by obtain ⟨o, ho, hc⟩ := hrow B e'.symm; rw [show X.heap[B]? = _ from hs] at ho; cases ho; cases hc)
theorem Blk.cell {W : World} {B : Nat} {t : TypeId} {cs : Array Value} (h : Blk W B t cs) (j : Nat) : W.cell? ⟨B, j, none⟩ = cs[j]? := by
  unfold Blk at h
  simp [World.cell?, h]
theorem Blk.frozen {W : World} {B : Nat} {t : TypeId} {cs : Array Value} (h : Blk W B t cs) (j : Nat) : W.frozen? ⟨B, j, none⟩ = false := by
  unfold Blk at h
  simp [World.frozen?, h]
theorem Blk.new (W : World) (t : TypeId) (cs : Array Value) : Blk (W.alloc (.cells cs t)) W.heap.size t cs := World.alloc_heap_new W _
theorem Blk.alloc {W : World} {B : Nat} {t : TypeId} {cs : Array Value} (h : Blk W B t cs) (o : Obj) : Blk (W.alloc o) B t cs := (Below.heap_alloc W o B (Array.getElem?_eq_some_iff.1 h).1).trans h
theorem Blk.below {W W' : World} {B : Nat} {t : TypeId} {cs : Array Value} (h : Blk W B t cs) (hb : Below W.heap.size W W') : Blk W' B t cs := (hb.block B (Array.getElem?_eq_some_iff.1 h).1).trans h
theorem Blk.lt {W : World} {B : Nat} {t : TypeId} {cs : Array Value} (h : Blk W B t cs) : B < W.heap.size := (Array.getElem?_eq_some_iff.1 h).1

theorem Blk.set {W : World} {B : Nat} {t : TypeId} {cs : Array Value} (h : Blk W B t cs) (j : Nat) (v : Value) : Blk (W.setCell ⟨B, j, none⟩ v) B t (cs.setIfInBounds j v) := by
  unfold Blk at *
  simp [World.setCell, Array.getElem?_modify, h]
theorem Blk.other {W : World} {B B' j : Nat} {t : TypeId} {cs : Array Value} (h : Blk W B t cs) (hne : B ≠ B') (v : Value) : Blk (W.setCell ⟨B', j, none⟩ v) B t cs := by
  unfold Blk at *
  simp [World.setCell, Array.getElem?_modify, h, hne.symm]
theorem Blk.drew {W : World} {B : Nat} {t : TypeId} {cs : Array Value} (h : Blk W B t cs) : Blk W.drew B t cs := h

/-- What the iterator asks of a round that goes on: its own box lies as it lay. -/
def KpB (Bs : Nat) (s : ByteArray) (W W' : World) : Prop := Blk W Bs 9 #[.string s] → Blk W' Bs 9 #[.string s]
theorem kpB_t {Bs : Nat} {s : ByteArray} {A B C : World} (h : KpB Bs s A B) (k : KpB Bs s B C) : KpB Bs s A C := fun x => k (h x)
theorem kpB_b {Bs : Nat} {s : ByteArray} {n : Nat} (W : World) (l : Nat) (o o' : Obj) (_ : n ≤ l) (h : W.heap[l]? = some o) (hc : o.isCells = false) (_ : o.isWalk = false) : KpB Bs s W (W.putObj l o') := fun x =>
  x.kept (grownBy_putObj' W l o') (fun e => by
    injection e with e
    subst e
    rw [show W.heap[Bs]? = _ from x] at h
    cases h
    cases hc)

/-- A line of s: its number, its place, its bytes. -/
structure Ln (s : ByteArray) where
  n : Nat
  at_ : Nat
  l : ByteArray
  hn : n ≤ s.size
  hl : at_ + l.size ≤ s.size

def nlAt (s : ByteArray) (a : Nat) : Int := Lib.indexByte (s.extract a s.size).data.toList 10

theorem nlAt_room {s : ByteArray} {a i : Nat} (h : nlAt s a = i) (ha : a ≤ s.size) : a + i < s.size := by
  have := idx_room (s.extract a s.size) h
  simp at this
  omega

def lnsGo (s : ByteArray) : Nat → (n a : Nat) → List (Ln s)
  | 0, _, _ => []
  | f + 1, n, a =>
    if h : n ≤ a ∧ a ≤ s.size then
      if h2 : nlAt s a = -1 then [⟨n, a, s.extract a s.size, by omega, by simp; omega⟩]
      else ⟨n, a, s.extract a (a + (nlAt s a).toNat), by omega, by
        have := @nlAt_room s a (nlAt s a).toNat (by have := Lib.indexByte_ge (s.extract a s.size).data.toList 10; unfold nlAt at *; omega) h.2
        simp; omega⟩ :: lnsGo s f (n + 1) (a + (nlAt s a).toNat + 1)
    else []

def lns (s : ByteArray) : List (Ln s) := lnsGo s (s.size + 1) 0 0

theorem grown_drew (w : World) : w.grownBy w.drew none :=
  have h := (Below.refl w.heap.size w).drew
  ⟨h.os, h.tape, h.output, h.size, fun i hi _ => h.block i hi⟩

theorem lnsGo_hit (s : ByteArray) (f n a i : Nat) (hf : s.size + 1 - a ≤ f) (hn : n ≤ a) (ha : a ≤ s.size) (h : nlAt s a = i) : ∃ x : Ln s, x.n = n ∧ x.at_ = a ∧ x.l = s.extract a (a + i) ∧ lnsGo s f n a = x :: lnsGo s (f - 1) (n + 1) (a + i + 1) := by
  obtain ⟨f, rfl⟩ : ∃ g, f = g + 1 := ⟨f - 1, by omega⟩
  obtain rfl : i = (nlAt s a).toNat := by omega
  rw [lnsGo, dif_pos ⟨hn, ha⟩, dif_neg (by omega)]
  exact ⟨_, rfl, rfl, rfl, rfl⟩

theorem lnsGo_miss (s : ByteArray) (f n a : Nat) (hf : s.size + 1 - a ≤ f) (hn : n ≤ a) (ha : a ≤ s.size) (h : nlAt s a = -1) : ∃ x : Ln s, x.n = n ∧ x.at_ = a ∧ x.l = s.extract a s.size ∧ lnsGo s f n a = [x] := by
  obtain ⟨f, rfl⟩ : ∃ g, f = g + 1 := ⟨f - 1, by omega⟩
  unfold lnsGo
  rw [dif_pos ⟨hn, ha⟩, dif_pos h]
  exact ⟨_, rfl, rfl, rfl, rfl⟩

abbrev lnEnc (s : ByteArray) (x : Ln s) : Array Value := #[.int .i64 x.n, .agg #[.int .i64 x.at_, .string x.l]]

set_option maxHeartbeats 2000000 in
set_option maxRecDepth 100000 in
theorem lines_stops (n Bs : Nat) (s : ByteArray) (hs : s.size ≤ 1048576) (w : World) (hc : Blk w Bs 9 #[.string s]) :
    SeqStopsK Fence.wide n Try.prog 28 #[.pointer (some ⟨Bs, 0, none⟩)] (lnEnc s) (KpB Bs s) (fun xs => xs = lns s) (fun pre => pre <+: lns s) (s.size + 1) w := fun l J Jx W hW hJ hJx hY h0 => by
  refine callsIn_of_wp Try.func28 rfl trivial ?_ rfl
  simp only [Try.ntmps28, List.size_toArray, List.length_cons, List.length_nil, Nat.reduceAdd, Nat.reduceSub, Array.replicate_succ, Array.replicate_zero, List.push_toArray, List.append_toArray, List.nil_append, List.cons_append]
  have hfn : ∀ k, Fence.wide.fn k := fun _ => trivial
  have hdep : Fence.wide.depth.isSome = false := rfl
  have hcW : Blk W Bs 9 #[.string s] := hc.below hW
  gi_wp2
  gi_loopw [3, 4] (fun p q wr => ∃ (pre : List (Ln s)) (a k f : Nat), p = .int .i64 a ∧ q = .int .i64 k ∧ k ≤ a ∧ a ≤ s.size ∧ pre.length = k ∧ s.size + 1 - a ≤ f ∧ lns s = pre ++ lnsGo s f k a ∧ Blk wr Bs 9 #[.string s] ∧ J pre wr)
    (fun p _ _ => s.size + 1 - (intOf p).toNat)
  case atStart => exact ⟨[], 0, 0, s.size + 1, rfl, rfl, by omega, by omega, rfl, by omega, rfl, hcW, h0⟩
  case round =>
    obtain ⟨pre, a, k, f, rfl, rfl, hk, ha, hpl, hf, hx, hcr, hJr⟩ := hrel
    have hbr := hcr
    have hcr := hbr.cell 0
    have hHx := Lib.hid hx
    clear hx
    rcases Classical.em (nlAt s a = -1) with hm | hm
    · obtain ⟨x, x1, x2, x3, x4⟩ := lnsGo_miss s f k a hf hk ha hm
      have hJd : J pre wr := hJr
      obtain ⟨fn, tmps, assign, body, hy, hR⟩ := hY pre x wr hJd (by omega)
      dsimp only [lnEnc] at hy
      rw [x1, x2, x3] at hy
      clear x1 x2 x3
      have hsz : ¬ s.size < a := by omega
      gi_wp2_with (gi_at_call 29; refine (callsIn_wide.2 (cut_miss _ _ hm)).mono ?_; rintro e w' ⟨rfl, rfl⟩)
      refine hR.mono ?_
      rintro e W3 (⟨rfl, hJ3, hk3⟩ | ⟨rfl, hJx3⟩)
      · gi_wp2
        refine bodyPost_ret (results_none rfl _ _ _) rfl ?_
        exact ⟨⟨_, rfl⟩, .inl ⟨_, by rw [hHx.out, x4], hJ3⟩⟩
      · gi_wp2
        refine bodyPost_ret (results_none rfl _ _ _) rfl ?_
        exact ⟨⟨_, rfl⟩, .inr ⟨_, by rw [hHx.out, x4]; exact List.prefix_refl _, hJx3⟩⟩
    · obtain ⟨i, hi⟩ : ∃ i : Nat, nlAt s a = i := ⟨(nlAt s a).toNat, by have := Lib.indexByte_ge (s.extract a s.size).data.toList 10; unfold nlAt at *; omega⟩
      clear hm
      have hroom := nlAt_room hi ha
      obtain ⟨x, x1, x2, x3, x4⟩ := lnsGo_hit s f k a i hf hk ha hi
      have hJd : J pre wr.drew := hJ _ _ _ none hJr (grown_drew _) (fun r e => by cases e)
      obtain ⟨fn, tmps, assign, body, hy, hR⟩ := hY pre x wr.drew hJd (by omega)
      dsimp only [lnEnc] at hy
      rw [x1, x2, x3] at hy
      clear x1 x2 x3
      have hsz : ¬ s.size < a := by omega
      have hcut : (s.extract a s.size).extract 0 i = s.extract a (a + i) := by
        rw [ByteArray.extract_extract]; congr 1 <;> omega
      have Hcut := Lib.hid hcut
      have Hi := Lib.hid hi
      have Hx4 := Lib.hid x4
      clear hcut hi x4
      gi_wp2_with (gi_at_call 29; refine (callsIn_wide.2 (cut_hit _ i _ Hi.out (by simp; omega))).mono ?_; rintro e w' ⟨rfl, rfl⟩; rw [Hcut.out])
      refine hR.mono ?_
      rintro e W3 (⟨rfl, hJ3, hk3⟩ | ⟨rfl, hJx3⟩)
      · have hc3 : Blk W3 Bs 9 #[.string s] := hk3 hbr.drew
        gi_wp2
        go_roundw
        case rel => exact ⟨pre ++ [x], a + i + 1, k + 1, f - 1, by rw [show min (a + i) s.size - a = i from by omega]; go_num, by go_num, by omega, by omega, by simp [hpl], by omega, by rw [hHx.out, Hx4.out]; simp, hc3, hJ3⟩
        case measure => simp [intOf]; omega
      · gi_wp2
        refine bodyPost_ret (results_none rfl _ _ _) rfl ?_
        exact ⟨⟨_, rfl⟩, .inr ⟨_, by rw [hHx.out, Hx4.out]; simp, hJx3⟩⟩
end Go.Proofs
