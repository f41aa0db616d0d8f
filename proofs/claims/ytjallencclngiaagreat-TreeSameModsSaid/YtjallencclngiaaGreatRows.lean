/-
  NARROWER THAN 'FOR EVERY INPUT', by the rows' own cells (each row's printed sentence says how): TreeSames: loops · TreeSameMods: loops · TreeCopies: loops · TreePlaces: loops.
  DERIVED. THE GIVEN ROWS OF THIS SEAT. 4 by the template 'for every input the law returns true; each argument reads behind the call as it read before'; 0 by the template 'total and deterministic' (their statements: YtjallencclngiaaGreatTotals.lean).
  GIVEN WITH THE SEED: the statements are not yours to turn. If you find one false, say at which input.
  Laid BY PROGRAM, IN A SANDBOX (cutbox-rows.mjs): the forced cells as the released guide's own fill.sh prints them over the translation 2cdd934e207a814d… (all of the seat's roots in one cut). By AI agents, Wed Nov 11 2026. No macro, syntax, notation, axiom, sorry.
-/
import Derived.Test.YtjallencclngiaaGreatChecked
import GoSem.Claim
import GoSem.ClaimJoined
import GoSem.ClaimMapViews
import Derived.JoinedTies
import Derived.KernelRfl
namespace Go.Proofs.YtjallencclngiaaGreat
/- THE CELL 'sum', in the pinned program and in every row, IS THE sha256 OF THE DUMP (.gsa) THAT YtjallencclngiaaGreatProg.lean LOADS. Nothing in Lean hashes anything: it is a label: what it is worth is what the hold of that sum in a sandbox is worth. -/
noncomputable def Tryz.pinned : Pinned := { name := "ytjallencclngiaagreat", sum := "2cdd934e207a814d22731014ee9a24aadb340535f93662f43920db369e9f6502", checked := Tryz.checked }
namespace Rows
def none {H : Type} : Left H := { results := [], args := [] }

/-- 'waferlaw04.TreeSames': WHATEVER THE INPUT: true; the input reads as it did. -/
def treeSamesSpec : ChangeSpec := { name := "treeSames", fn := fun _ => fun
  | [d1, d2, d3, d4] => { results := [.lit (.bool true)], args := [d1, d2, d3, d4] }
  | _ => none }
def treeSamesRow : OpenClaim := { program := "ytjallencclngiaagreat", sum := "2cdd934e207a814d22731014ee9a24aadb340535f93662f43920db369e9f6502", func := "wafer/waferlaw04.TreeSames", spec := "treeSames", unfollowed := true, recurses := true, loops := true, apart := false }
def TreeSamesSaid : Prop := treeSamesRow.holds Tryz.pinned (OpenSpec.ofChange treeSamesSpec)

/-- ITS FALSE NEIGHBOUR: 'it returns false'. Refute it at one input. -/
def treeSamesWrong : ChangeSpec := { name := "treeSames", fn := fun _ => fun
  | [d1, d2, d3, d4] => { results := [.lit (.bool false)], args := [d1, d2, d3, d4] }
  | _ => none }
def TreeSamesWrongFalsely : Prop := treeSamesRow.holds Tryz.pinned (OpenSpec.ofChange treeSamesWrong)

/-- 'waferlaw04.TreeSameMods': WHATEVER THE INPUT: true; the input reads as it did. -/
def treeSameModsSpec : ChangeSpec := { name := "treeSameMods", fn := fun _ => fun
  | [d1, d2, d3, d4] => { results := [.lit (.bool true)], args := [d1, d2, d3, d4] }
  | _ => none }
def treeSameModsRow : OpenClaim := { program := "ytjallencclngiaagreat", sum := "2cdd934e207a814d22731014ee9a24aadb340535f93662f43920db369e9f6502", func := "wafer/waferlaw04.TreeSameMods", spec := "treeSameMods", unfollowed := true, recurses := true, loops := true, apart := false }
def TreeSameModsSaid : Prop := treeSameModsRow.holds Tryz.pinned (OpenSpec.ofChange treeSameModsSpec)

/-- ITS FALSE NEIGHBOUR: 'it returns false'. Refute it at one input. -/
def treeSameModsWrong : ChangeSpec := { name := "treeSameMods", fn := fun _ => fun
  | [d1, d2, d3, d4] => { results := [.lit (.bool false)], args := [d1, d2, d3, d4] }
  | _ => none }
def TreeSameModsWrongFalsely : Prop := treeSameModsRow.holds Tryz.pinned (OpenSpec.ofChange treeSameModsWrong)

/-- 'waferlaw04.TreeCopies': WHATEVER THE INPUT: true; the input reads as it did. -/
def treeCopiesSpec : ChangeSpec := { name := "treeCopies", fn := fun _ => fun
  | [d] => { results := [.lit (.bool true)], args := [d] }
  | _ => none }
def treeCopiesRow : OpenClaim := { program := "ytjallencclngiaagreat", sum := "2cdd934e207a814d22731014ee9a24aadb340535f93662f43920db369e9f6502", func := "wafer/waferlaw04.TreeCopies", spec := "treeCopies", unfollowed := true, recurses := true, loops := true, apart := false }
def TreeCopiesSaid : Prop := treeCopiesRow.holds Tryz.pinned (OpenSpec.ofChange treeCopiesSpec)

/-- ITS FALSE NEIGHBOUR: 'it returns false'. Refute it at one input. -/
def treeCopiesWrong : ChangeSpec := { name := "treeCopies", fn := fun _ => fun
  | [d] => { results := [.lit (.bool false)], args := [d] }
  | _ => none }
def TreeCopiesWrongFalsely : Prop := treeCopiesRow.holds Tryz.pinned (OpenSpec.ofChange treeCopiesWrong)

/-- 'waferlaw04.TreePlaces': WHATEVER THE INPUT: true; the input reads as it did. -/
def treePlacesSpec : ChangeSpec := { name := "treePlaces", fn := fun _ => fun
  | [d1, d2] => { results := [.lit (.bool true)], args := [d1, d2] }
  | _ => none }
def treePlacesRow : OpenClaim := { program := "ytjallencclngiaagreat", sum := "2cdd934e207a814d22731014ee9a24aadb340535f93662f43920db369e9f6502", func := "wafer/waferlaw04.TreePlaces", spec := "treePlaces", unfollowed := true, recurses := true, loops := true, apart := false }
def TreePlacesSaid : Prop := treePlacesRow.holds Tryz.pinned (OpenSpec.ofChange treePlacesSpec)

/-- ITS FALSE NEIGHBOUR: 'it returns false'. Refute it at one input. -/
def treePlacesWrong : ChangeSpec := { name := "treePlaces", fn := fun _ => fun
  | [d1, d2] => { results := [.lit (.bool false)], args := [d1, d2] }
  | _ => none }
def TreePlacesWrongFalsely : Prop := treePlacesRow.holds Tryz.pinned (OpenSpec.ofChange treePlacesWrong)

/- THE SECOND FORM. 'bulk': how many values and letters a reading holds, each counted each time it is reached (what is shared counts as often as it is met; a slice's spare places count too). A statement '..UptoSaid' is the law's where the arguments, and the package variables that the reading takes, are together of bulk at most 1048576: NARROWER than '..Said'. Prove '..Said' where nothing that the law and all that it calls make is longer than what came in: it says more and counts as full. Else prove '..UptoSaid'. A law counts once. -/
mutual
def uptoBulk {H : Type} : DataW H → Nat
  | .lit (.string bytes) => bytes.length + 1
  | .lit _ => 1
  | .nil => 1
  | .ptr d => uptoBulk d + 1
  | .slice elems spare => uptoBulkAll elems + uptoBulkAll spare + 1
  | .agg parts => uptoBulkAll parts + 1
  | .iface _ d => uptoBulk d + 1
  | .map entries => uptoBulkEntries entries + 1
  | .held _ => 1
def uptoBulkAll {H : Type} : List (DataW H) → Nat
  | [] => 0
  | d :: r => uptoBulk d + uptoBulkAll r
def uptoBulkEntries {H : Type} : List (Lit × DataW H) → Nat
  | [] => 0
  | x :: r => uptoBulkEntry x + uptoBulkEntries r
def uptoBulkEntry {H : Type} : Lit × DataW H → Nat
  | (.string bytes, d) => bytes.length + uptoBulk d + 1
  | (_, d) => uptoBulk d + 1
 end
def uptoSmall : (H : Type) → List (DataW H) → Bool := fun _ ds => decide (uptoBulkAll ds ≤ 1048576)
def OpenSpec.upto (s : _root_.Go.ChangeSpec) : _root_.Go.OpenSpec := { _root_.Go.OpenSpec.ofChange s with cond := some uptoSmall }

/-- 'waferlaw04.TreeSames', WHERE WHAT IT READS IS OF BULK AT MOST 1048576: true; the input reads as it did. -/
def treeSamesUptoRow : OpenClaim := { program := "ytjallencclngiaagreat", sum := "2cdd934e207a814d22731014ee9a24aadb340535f93662f43920db369e9f6502", func := "wafer/waferlaw04.TreeSames", spec := "treeSames", unfollowed := true, recurses := true, loops := true, apart := false, narrowed := true }
def TreeSamesUptoSaid : Prop := treeSamesUptoRow.holds Tryz.pinned (OpenSpec.upto treeSamesSpec)

/-- 'waferlaw04.TreeSameMods', WHERE WHAT IT READS IS OF BULK AT MOST 1048576: true; the input reads as it did. -/
def treeSameModsUptoRow : OpenClaim := { program := "ytjallencclngiaagreat", sum := "2cdd934e207a814d22731014ee9a24aadb340535f93662f43920db369e9f6502", func := "wafer/waferlaw04.TreeSameMods", spec := "treeSameMods", unfollowed := true, recurses := true, loops := true, apart := false, narrowed := true }
def TreeSameModsUptoSaid : Prop := treeSameModsUptoRow.holds Tryz.pinned (OpenSpec.upto treeSameModsSpec)

/-- 'waferlaw04.TreeCopies', WHERE WHAT IT READS IS OF BULK AT MOST 1048576: true; the input reads as it did. -/
def treeCopiesUptoRow : OpenClaim := { program := "ytjallencclngiaagreat", sum := "2cdd934e207a814d22731014ee9a24aadb340535f93662f43920db369e9f6502", func := "wafer/waferlaw04.TreeCopies", spec := "treeCopies", unfollowed := true, recurses := true, loops := true, apart := false, narrowed := true }
def TreeCopiesUptoSaid : Prop := treeCopiesUptoRow.holds Tryz.pinned (OpenSpec.upto treeCopiesSpec)

/-- 'waferlaw04.TreePlaces', WHERE WHAT IT READS IS OF BULK AT MOST 1048576: true; the input reads as it did. -/
def treePlacesUptoRow : OpenClaim := { program := "ytjallencclngiaagreat", sum := "2cdd934e207a814d22731014ee9a24aadb340535f93662f43920db369e9f6502", func := "wafer/waferlaw04.TreePlaces", spec := "treePlaces", unfollowed := true, recurses := true, loops := true, apart := false, narrowed := true }
def TreePlacesUptoSaid : Prop := treePlacesUptoRow.holds Tryz.pinned (OpenSpec.upto treePlacesSpec)

end Rows
end Go.Proofs.YtjallencclngiaaGreat
