import Derived.Test.YtjallencclngiaaGreatTC
import Derived.Test.YtjallencclngiaaGreatE22
import Derived.KernelRfl
open Go Go.Eng
namespace Go.Proofs
set_option maxRecDepth 100000

def strs (l : List ByteArray) : List (List AV) := l.map fun s => [.val (.string s)]
def noext : Ext := fun _ => none
noncomputable def tev : CallF := ev Tryz.prog cfg0 noext
noncomputable def lhd (f : FuncId) (fn : Func) (args : List AV) (H : Heap) : Tr := kHead Tryz.prog cfg0 sh0 rs0 f fn 0 (.seq (pA (bodyOf fn)) (.seq (pC (bodyOf fn)) (pD (bodyOf fn)))) args H
noncomputable def lrd (f : FuncId) (fn : Func) (s : St) : Tr := kLoop Tryz.prog cfg0 sh0 rs0 f fn 0 (pL (bodyOf fn)) (pT (bodyOf fn)) s

def loops (fn : Func) : Prop := fn.body = some (.seq (pA (bodyOf fn)) (.seq (pC (bodyOf fn)) (.seq (.seq (pD (bodyOf fn)) (.block 0 (.loop (pL (bodyOf fn))))) (pT (bodyOf fn)))))

def S16 (X Y : List (List AV)) (n i : Int) (H : Heap) : St := at0 26 [(0, .slice 1 X .no), (1, .slice 1 Y .no), (12, sI n), (13, sI i)] H

theorem c16 : loops Tryz.f23 := by unfold loops; kernel_rfl

theorem h16 (X Y : List (List AV)) (H : Heap) : lhd 23 Tryz.f23 [.slice 1 X .no, .slice 1 Y .no] H =
    .branch ((X.length : Int) != (Y.length : Int)) (.ret (retB false H)) (.done .normal (S16 X Y X.length 0 H)) := by kernel_rfl

theorem l16 (X Y : List (List AV)) (n i : Int) (H : Heap) : lrd 23 Tryz.f23 (S16 X Y n i H) =
    .branch (decide (i < n)) (.row X i [.str] fun lf => .row Y i [.str] fun lg => .branch (!((lf.s 0).toList == (lg.s 0).toList)) (.ret (retB false H)) (.done .normal (S16 X Y n (IntKind.i64.wrap (i + 1)) H)))
      (.ret (retB true H)) := by kernel_rfl

def lfS (s : ByteArray) : Lf := ⟨fun _ => false, fun _ => 0, fun _ => s, fun _ => [], fun _ => .any⟩

def Few {α : Type} (l : List α) : Prop := l.length ≤ maxLen

theorem few_at {α : Type} {l : List α} (h : Few l) {i : Nat} {x : α} (hi : l[i]? = some x) : i < 9223372036854775807 := by
  have := (List.getElem?_eq_some_iff.1 hi).1
  unfold Few maxLen at h; omega

def seqs (xs ys : List ByteArray) : Bool := all2 (fun x y => decide (x = y)) xs ys

theorem equal_16 (xs ys : List ByteArray) (H : Heap) (hf : Few xs) : tev 23 [.slice 1 (strs xs) .no, .slice 1 (strs ys) .no] .none H = some (retB (seqs xs ys) H) := by
  refine cmp_loop (sh := sh0) (rs := rs0) (fun i => S16 (strs xs) (strs ys) xs.length i H) rfl Tryz.func23 c16 ?_ ?_ ?_
  · refine wp_eq (h16 (strs xs) (strs ys) H) ?_
    have e : ((strs xs).length : Int) = xs.length := by simp [strs]
    rw [← e]
    exact wp_lens (by simp [strs]) (by simp [strs])
  · intro i x y hx hy
    refine wp_eq (l16 (strs xs) (strs ys) xs.length i H) ?_
    refine wp_lt (List.getElem?_eq_some_iff.1 hx).1 (wp_row (lfS x) (map_at hx) (wp_row (lfS y) (map_at hy) ?_))
    simp only [lfS, bytes_eq]
    refine wp_if (fun h => ⟨by simpa using h, rfl⟩) (fun h => ⟨by simpa using h, ?_⟩)
    rw [wrap_succ (few_at hf hx)]
  · intro hl
    refine wp_eq (l16 (strs xs) (strs ys) xs.length xs.length H) ?_
    exact wp_ge rfl
end Go.Proofs
