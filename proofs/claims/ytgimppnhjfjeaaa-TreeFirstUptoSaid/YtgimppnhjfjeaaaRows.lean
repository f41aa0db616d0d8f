/-
  NARROWER THAN 'FOR EVERY INPUT', by the rows' own cells (each row's printed sentence says how): TreeSameTys: loops · TreeEquality: loops · TreeCounts: loops · TreeFirst: loops.
  DERIVED. THE GIVEN ROWS OF THIS SEAT. 4 by the template 'for every input the law returns true; each argument reads behind the call as it read before'; 0 by the template 'total and deterministic' (their statements: YtgimppnhjfjeaaaTotals.lean).
  GIVEN WITH THE SEED: the statements are not yours to turn. If you find one false, say at which input.
  Laid BY PROGRAM, IN A SANDBOX (cutbox-rows.mjs): the forced cells as the released guide's own fill.sh prints them over the translation 69041c8cd02206c4… (all of the seat's roots in one cut). By AI agents, Wed Nov 11 2026. No macro, syntax, notation, axiom, sorry.
-/
import Derived.Test.YtgimppnhjfjeaaaChecked
import GoSem.Claim
import GoSem.ClaimJoined
import GoSem.ClaimMapViews
import Derived.JoinedTies
import Derived.KernelRfl
namespace Go.Proofs.Ytgimppnhjfjeaaa
/- THE CELL 'sum', in the pinned program and in every row, IS THE sha256 OF THE DUMP (.gsa) THAT YtgimppnhjfjeaaaProg.lean LOADS. Nothing in Lean hashes anything: it is a label: what it is worth is what the hold of that sum in a sandbox is worth. -/
noncomputable def Try.pinned : Pinned := { name := "ytgimppnhjfjeaaa", sum := "69041c8cd02206c45f4d9c90c32102d1b3a79b9dc9bbe31b0af13c647288d061", checked := Try.checked }
namespace Rows
def none {H : Type} : Left H := { results := [], args := [] }

/-- 'waferlaw04.TreeSameTys': WHATEVER THE INPUT: true; the input reads as it did. -/
def treeSameTysSpec : ChangeSpec := { name := "treeSameTys", fn := fun _ => fun
  | [d1, d2, d3, d4] => { results := [.lit (.bool true)], args := [d1, d2, d3, d4] }
  | _ => none }
def treeSameTysRow : OpenClaim := { program := "ytgimppnhjfjeaaa", sum := "69041c8cd02206c45f4d9c90c32102d1b3a79b9dc9bbe31b0af13c647288d061", func := "wafer/waferlaw04.TreeSameTys", spec := "treeSameTys", unfollowed := true, recurses := true, loops := true, apart := false }
def TreeSameTysSaid : Prop := treeSameTysRow.holds Try.pinned (OpenSpec.ofChange treeSameTysSpec)

/-- ITS FALSE NEIGHBOUR: 'it returns false'. Refute it at one input. -/
def treeSameTysWrong : ChangeSpec := { name := "treeSameTys", fn := fun _ => fun
  | [d1, d2, d3, d4] => { results := [.lit (.bool false)], args := [d1, d2, d3, d4] }
  | _ => none }
def TreeSameTysWrongFalsely : Prop := treeSameTysRow.holds Try.pinned (OpenSpec.ofChange treeSameTysWrong)

/-- 'waferlaw04.TreeEquality': WHATEVER THE INPUT: true; the input reads as it did. -/
def treeEqualitySpec : ChangeSpec := { name := "treeEquality", fn := fun _ => fun
  | [d1, d2, d3] => { results := [.lit (.bool true)], args := [d1, d2, d3] }
  | _ => none }
def treeEqualityRow : OpenClaim := { program := "ytgimppnhjfjeaaa", sum := "69041c8cd02206c45f4d9c90c32102d1b3a79b9dc9bbe31b0af13c647288d061", func := "wafer/waferlaw04.TreeEquality", spec := "treeEquality", unfollowed := true, recurses := true, loops := true, apart := false }
def TreeEqualitySaid : Prop := treeEqualityRow.holds Try.pinned (OpenSpec.ofChange treeEqualitySpec)

/-- ITS FALSE NEIGHBOUR: 'it returns false'. Refute it at one input. -/
def treeEqualityWrong : ChangeSpec := { name := "treeEquality", fn := fun _ => fun
  | [d1, d2, d3] => { results := [.lit (.bool false)], args := [d1, d2, d3] }
  | _ => none }
def TreeEqualityWrongFalsely : Prop := treeEqualityRow.holds Try.pinned (OpenSpec.ofChange treeEqualityWrong)

/-- 'waferlaw04.TreeCounts': WHATEVER THE INPUT: true; the input reads as it did. -/
def treeCountsSpec : ChangeSpec := { name := "treeCounts", fn := fun _ => fun
  | [d1, d2] => { results := [.lit (.bool true)], args := [d1, d2] }
  | _ => none }
def treeCountsRow : OpenClaim := { program := "ytgimppnhjfjeaaa", sum := "69041c8cd02206c45f4d9c90c32102d1b3a79b9dc9bbe31b0af13c647288d061", func := "wafer/waferlaw04.TreeCounts", spec := "treeCounts", unfollowed := true, recurses := true, loops := true, apart := false }
def TreeCountsSaid : Prop := treeCountsRow.holds Try.pinned (OpenSpec.ofChange treeCountsSpec)

/-- ITS FALSE NEIGHBOUR: 'it returns false'. Refute it at one input. -/
def treeCountsWrong : ChangeSpec := { name := "treeCounts", fn := fun _ => fun
  | [d1, d2] => { results := [.lit (.bool false)], args := [d1, d2] }
  | _ => none }
def TreeCountsWrongFalsely : Prop := treeCountsRow.holds Try.pinned (OpenSpec.ofChange treeCountsWrong)

/-- 'waferlaw04.TreeFirst': WHATEVER THE INPUT: true; the input reads as it did. -/
def treeFirstSpec : ChangeSpec := { name := "treeFirst", fn := fun _ => fun
  | [d1, d2] => { results := [.lit (.bool true)], args := [d1, d2] }
  | _ => none }
def treeFirstRow : OpenClaim := { program := "ytgimppnhjfjeaaa", sum := "69041c8cd02206c45f4d9c90c32102d1b3a79b9dc9bbe31b0af13c647288d061", func := "wafer/waferlaw04.TreeFirst", spec := "treeFirst", unfollowed := true, recurses := true, loops := true, apart := false }
def TreeFirstSaid : Prop := treeFirstRow.holds Try.pinned (OpenSpec.ofChange treeFirstSpec)

/-- ITS FALSE NEIGHBOUR: 'it returns false'. Refute it at one input. -/
def treeFirstWrong : ChangeSpec := { name := "treeFirst", fn := fun _ => fun
  | [d1, d2] => { results := [.lit (.bool false)], args := [d1, d2] }
  | _ => none }
def TreeFirstWrongFalsely : Prop := treeFirstRow.holds Try.pinned (OpenSpec.ofChange treeFirstWrong)

/- THE SECOND FORM. 'bulk': how many values and letters a reading holds, each counted each time it is reached (what is shared counts as often as it is met; a slice's spare places count too). A statement '..UptoSaid' is the law's where the arguments, and the package variables that the reading takes, are together of bulk at most 1048576: NARROWER than '..Said'. Prove '..Said' where nothing that the law and all that it calls make is longer than what came in: it says more and counts as full. Else prove '..UptoSaid'. A law counts once. -/
mutual
def uptoBulk {H : Type} : DataW H → Nat
  | .lit (.string bytes) => bytes.length + 1
  | .lit _ => 1
  | .nil => 1
  | .ptr d => uptoBulk d + 1
  | .slice elems spare => uptoBulkAll elems + uptoBulkAll spare + 1
  | .agg parts => uptoBulkAll parts + 1
  | .iface _ d => uptoBulk d + 1
  | .map entries => uptoBulkEntries entries + 1
  | .held _ => 1
def uptoBulkAll {H : Type} : List (DataW H) → Nat
  | [] => 0
  | d :: r => uptoBulk d + uptoBulkAll r
def uptoBulkEntries {H : Type} : List (Lit × DataW H) → Nat
  | [] => 0
  | x :: r => uptoBulkEntry x + uptoBulkEntries r
def uptoBulkEntry {H : Type} : Lit × DataW H → Nat
  | (.string bytes, d) => bytes.length + uptoBulk d + 1
  | (_, d) => uptoBulk d + 1
 end
def uptoSmall : (H : Type) → List (DataW H) → Bool := fun _ ds => decide (uptoBulkAll ds ≤ 1048576)
def OpenSpec.upto (s : _root_.Go.ChangeSpec) : _root_.Go.OpenSpec := { _root_.Go.OpenSpec.ofChange s with cond := some uptoSmall }

/-- 'waferlaw04.TreeSameTys', WHERE WHAT IT READS IS OF BULK AT MOST 1048576: true; the input reads as it did. -/
def treeSameTysUptoRow : OpenClaim := { program := "ytgimppnhjfjeaaa", sum := "69041c8cd02206c45f4d9c90c32102d1b3a79b9dc9bbe31b0af13c647288d061", func := "wafer/waferlaw04.TreeSameTys", spec := "treeSameTys", unfollowed := true, recurses := true, loops := true, apart := false, narrowed := true }
def TreeSameTysUptoSaid : Prop := treeSameTysUptoRow.holds Try.pinned (OpenSpec.upto treeSameTysSpec)

/-- 'waferlaw04.TreeEquality', WHERE WHAT IT READS IS OF BULK AT MOST 1048576: true; the input reads as it did. -/
def treeEqualityUptoRow : OpenClaim := { program := "ytgimppnhjfjeaaa", sum := "69041c8cd02206c45f4d9c90c32102d1b3a79b9dc9bbe31b0af13c647288d061", func := "wafer/waferlaw04.TreeEquality", spec := "treeEquality", unfollowed := true, recurses := true, loops := true, apart := false, narrowed := true }
def TreeEqualityUptoSaid : Prop := treeEqualityUptoRow.holds Try.pinned (OpenSpec.upto treeEqualitySpec)

/-- 'waferlaw04.TreeCounts', WHERE WHAT IT READS IS OF BULK AT MOST 1048576: true; the input reads as it did. -/
def treeCountsUptoRow : OpenClaim := { program := "ytgimppnhjfjeaaa", sum := "69041c8cd02206c45f4d9c90c32102d1b3a79b9dc9bbe31b0af13c647288d061", func := "wafer/waferlaw04.TreeCounts", spec := "treeCounts", unfollowed := true, recurses := true, loops := true, apart := false, narrowed := true }
def TreeCountsUptoSaid : Prop := treeCountsUptoRow.holds Try.pinned (OpenSpec.upto treeCountsSpec)

/-- 'waferlaw04.TreeFirst', WHERE WHAT IT READS IS OF BULK AT MOST 1048576: true; the input reads as it did. -/
def treeFirstUptoRow : OpenClaim := { program := "ytgimppnhjfjeaaa", sum := "69041c8cd02206c45f4d9c90c32102d1b3a79b9dc9bbe31b0af13c647288d061", func := "wafer/waferlaw04.TreeFirst", spec := "treeFirst", unfollowed := true, recurses := true, loops := true, apart := false, narrowed := true }
def TreeFirstUptoSaid : Prop := treeFirstUptoRow.holds Try.pinned (OpenSpec.upto treeFirstSpec)

end Rows
end Go.Proofs.Ytgimppnhjfjeaaa
