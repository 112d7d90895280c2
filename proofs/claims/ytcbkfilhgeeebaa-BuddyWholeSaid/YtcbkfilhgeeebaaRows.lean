/-
  No cell of these rows narrows 'for every input' (looked for: loops, veiled, ifaces, maps, wideKeys, modest, calm, conditions, laid).
  DERIVED. THE GIVEN ROWS OF THIS SEAT. 7 by the template 'for every input the law returns true; each argument reads behind the call as it read before'; 0 by the template 'total and deterministic' (their statements: YtcbkfilhgeeebaaTotals.lean).
  GIVEN WITH THE SEED: the statements are not yours to turn. If you find one false, say at which input.
  Laid BY PROGRAM, IN A SANDBOX (cutbox-rows.mjs): the forced cells as the released guide's own fill.sh prints them over the translation d9b78460275df0f3… (all of the seat's roots in one cut). By AI agents, Wed Nov 11 2026. No macro, syntax, notation, axiom, sorry.
-/
import Derived.Test.YtcbkfilhgeeebaaChecked
import GoSem.Claim
import GoSem.ClaimJoined
import GoSem.ClaimMapViews
import Derived.JoinedTies
import Derived.KernelRfl
namespace Go.Proofs.Ytcbkfilhgeeebaa
/- THE CELL 'sum', in the pinned program and in every row, IS THE sha256 OF THE DUMP (.gsa) THAT YtcbkfilhgeeebaaProg.lean LOADS. Nothing in Lean hashes anything: it is a label: what it is worth is what the hold of that sum in a sandbox is worth. -/
noncomputable def Try.pinned : Pinned := { name := "ytcbkfilhgeeebaa", sum := "d9b78460275df0f3b7735690bd41dbfeb28959b00283fd5e024f336e0ebe9ea1", checked := Try.checked }
namespace Rows
def none {H : Type} : Left H := { results := [], args := [] }

/-- 'pantilelaw04.BuddyApart': WHATEVER THE INPUT: true; the input reads as it did. -/
def buddyApartSpec : ChangeSpec := { name := "buddyApart", fn := fun _ => fun
  | [d1, d2] => { results := [.lit (.bool true)], args := [d1, d2] }
  | _ => none }
def buddyApartRow : OpenClaim := { program := "ytcbkfilhgeeebaa", sum := "d9b78460275df0f3b7735690bd41dbfeb28959b00283fd5e024f336e0ebe9ea1", func := "pantile/pantilelaw04.BuddyApart", spec := "buddyApart", inPlace := ["slices.overlaps[int]"], unfollowed := true, recurses := true, apart := false }
def BuddyApartSaid : Prop := buddyApartRow.holds Try.pinned (OpenSpec.ofChange buddyApartSpec)

/-- ITS FALSE NEIGHBOUR: 'it returns false'. Refute it at one input. -/
def buddyApartWrong : ChangeSpec := { name := "buddyApart", fn := fun _ => fun
  | [d1, d2] => { results := [.lit (.bool false)], args := [d1, d2] }
  | _ => none }
def BuddyApartWrongFalsely : Prop := buddyApartRow.holds Try.pinned (OpenSpec.ofChange buddyApartWrong)

/-- 'pantilelaw04.BuddyTakes': WHATEVER THE INPUT: true; the input reads as it did. -/
def buddyTakesSpec : ChangeSpec := { name := "buddyTakes", fn := fun _ => fun
  | [d] => { results := [.lit (.bool true)], args := [d] }
  | _ => none }
def buddyTakesRow : OpenClaim := { program := "ytcbkfilhgeeebaa", sum := "d9b78460275df0f3b7735690bd41dbfeb28959b00283fd5e024f336e0ebe9ea1", func := "pantile/pantilelaw04.BuddyTakes", spec := "buddyTakes", inPlace := ["slices.overlaps[int]"], unfollowed := true, recurses := true, apart := false }
def BuddyTakesSaid : Prop := buddyTakesRow.holds Try.pinned (OpenSpec.ofChange buddyTakesSpec)

/-- ITS FALSE NEIGHBOUR: 'it returns false'. Refute it at one input. -/
def buddyTakesWrong : ChangeSpec := { name := "buddyTakes", fn := fun _ => fun
  | [d] => { results := [.lit (.bool false)], args := [d] }
  | _ => none }
def BuddyTakesWrongFalsely : Prop := buddyTakesRow.holds Try.pinned (OpenSpec.ofChange buddyTakesWrong)

/-- 'pantilelaw04.BuddyMerged': WHATEVER THE INPUT: true; the input reads as it did. -/
def buddyMergedSpec : ChangeSpec := { name := "buddyMerged", fn := fun _ => fun
  | [d1, d2] => { results := [.lit (.bool true)], args := [d1, d2] }
  | _ => none }
def buddyMergedRow : OpenClaim := { program := "ytcbkfilhgeeebaa", sum := "d9b78460275df0f3b7735690bd41dbfeb28959b00283fd5e024f336e0ebe9ea1", func := "pantile/pantilelaw04.BuddyMerged", spec := "buddyMerged", inPlace := ["slices.overlaps[int]"], unfollowed := true, recurses := true, apart := false }
def BuddyMergedSaid : Prop := buddyMergedRow.holds Try.pinned (OpenSpec.ofChange buddyMergedSpec)

/-- ITS FALSE NEIGHBOUR: 'it returns false'. Refute it at one input. -/
def buddyMergedWrong : ChangeSpec := { name := "buddyMerged", fn := fun _ => fun
  | [d1, d2] => { results := [.lit (.bool false)], args := [d1, d2] }
  | _ => none }
def BuddyMergedWrongFalsely : Prop := buddyMergedRow.holds Try.pinned (OpenSpec.ofChange buddyMergedWrong)

/-- 'pantilelaw04.BuddyDoes': WHATEVER THE INPUT: true; the input reads as it did. -/
def buddyDoesSpec : ChangeSpec := { name := "buddyDoes", fn := fun _ => fun
  | [d1, d2] => { results := [.lit (.bool true)], args := [d1, d2] }
  | _ => none }
def buddyDoesRow : OpenClaim := { program := "ytcbkfilhgeeebaa", sum := "d9b78460275df0f3b7735690bd41dbfeb28959b00283fd5e024f336e0ebe9ea1", func := "pantile/pantilelaw04.BuddyDoes", spec := "buddyDoes", inPlace := ["slices.overlaps[int]"], unfollowed := true, recurses := true, apart := false }
def BuddyDoesSaid : Prop := buddyDoesRow.holds Try.pinned (OpenSpec.ofChange buddyDoesSpec)

/-- ITS FALSE NEIGHBOUR: 'it returns false'. Refute it at one input. -/
def buddyDoesWrong : ChangeSpec := { name := "buddyDoes", fn := fun _ => fun
  | [d1, d2] => { results := [.lit (.bool false)], args := [d1, d2] }
  | _ => none }
def BuddyDoesWrongFalsely : Prop := buddyDoesRow.holds Try.pinned (OpenSpec.ofChange buddyDoesWrong)

/-- 'pantilelaw04.BuddyWhole': WHATEVER THE INPUT: true; the input reads as it did. -/
def buddyWholeSpec : ChangeSpec := { name := "buddyWhole", fn := fun _ => fun
  | [d1, d2, d3] => { results := [.lit (.bool true)], args := [d1, d2, d3] }
  | _ => none }
def buddyWholeRow : OpenClaim := { program := "ytcbkfilhgeeebaa", sum := "d9b78460275df0f3b7735690bd41dbfeb28959b00283fd5e024f336e0ebe9ea1", func := "pantile/pantilelaw04.BuddyWhole", spec := "buddyWhole", inPlace := ["slices.overlaps[int]"], unfollowed := true, recurses := true, apart := false }
def BuddyWholeSaid : Prop := buddyWholeRow.holds Try.pinned (OpenSpec.ofChange buddyWholeSpec)

/-- ITS FALSE NEIGHBOUR: 'it returns false'. Refute it at one input. -/
def buddyWholeWrong : ChangeSpec := { name := "buddyWhole", fn := fun _ => fun
  | [d1, d2, d3] => { results := [.lit (.bool false)], args := [d1, d2, d3] }
  | _ => none }
def BuddyWholeWrongFalsely : Prop := buddyWholeRow.holds Try.pinned (OpenSpec.ofChange buddyWholeWrong)

/-- 'pantilelaw04.BuddyFinds': WHATEVER THE INPUT: true; the input reads as it did. -/
def buddyFindsSpec : ChangeSpec := { name := "buddyFinds", fn := fun _ => fun
  | [d1, d2, d3] => { results := [.lit (.bool true)], args := [d1, d2, d3] }
  | _ => none }
def buddyFindsRow : OpenClaim := { program := "ytcbkfilhgeeebaa", sum := "d9b78460275df0f3b7735690bd41dbfeb28959b00283fd5e024f336e0ebe9ea1", func := "pantile/pantilelaw04.BuddyFinds", spec := "buddyFinds", inPlace := ["slices.overlaps[int]"], unfollowed := true, recurses := true, apart := false }
def BuddyFindsSaid : Prop := buddyFindsRow.holds Try.pinned (OpenSpec.ofChange buddyFindsSpec)

/-- ITS FALSE NEIGHBOUR: 'it returns false'. Refute it at one input. -/
def buddyFindsWrong : ChangeSpec := { name := "buddyFinds", fn := fun _ => fun
  | [d1, d2, d3] => { results := [.lit (.bool false)], args := [d1, d2, d3] }
  | _ => none }
def BuddyFindsWrongFalsely : Prop := buddyFindsRow.holds Try.pinned (OpenSpec.ofChange buddyFindsWrong)

/-- 'pantilelaw04.BuddyNone': WHATEVER THE INPUT: true; the input reads as it did. -/
def buddyNoneSpec : ChangeSpec := { name := "buddyNone", fn := fun _ => fun
  | [d] => { results := [.lit (.bool true)], args := [d] }
  | _ => none }
def buddyNoneRow : OpenClaim := { program := "ytcbkfilhgeeebaa", sum := "d9b78460275df0f3b7735690bd41dbfeb28959b00283fd5e024f336e0ebe9ea1", func := "pantile/pantilelaw04.BuddyNone", spec := "buddyNone", inPlace := ["slices.overlaps[int]"], unfollowed := true, recurses := true, apart := false }
def BuddyNoneSaid : Prop := buddyNoneRow.holds Try.pinned (OpenSpec.ofChange buddyNoneSpec)

/-- ITS FALSE NEIGHBOUR: 'it returns false'. Refute it at one input. -/
def buddyNoneWrong : ChangeSpec := { name := "buddyNone", fn := fun _ => fun
  | [d] => { results := [.lit (.bool false)], args := [d] }
  | _ => none }
def BuddyNoneWrongFalsely : Prop := buddyNoneRow.holds Try.pinned (OpenSpec.ofChange buddyNoneWrong)

/- THE SECOND FORM. 'bulk': how many values and letters a reading holds, each counted each time it is reached (what is shared counts as often as it is met; a slice's spare places count too). A statement '..UptoSaid' is the law's where the arguments, and the package variables that the reading takes, are together of bulk at most 1048576: NARROWER than '..Said'. Prove '..Said' where nothing that the law and all that it calls make is longer than what came in: it says more and counts as full. Else prove '..UptoSaid'. A law counts once. -/
mutual
def uptoBulk {H : Type} : DataW H → Nat
  | .lit (.string bytes) => bytes.length + 1
  | .lit _ => 1
  | .nil => 1
  | .ptr d => uptoBulk d + 1
  | .slice elems spare => uptoBulkAll elems + uptoBulkAll spare + 1
  | .agg parts => uptoBulkAll parts + 1
  | .iface _ d => uptoBulk d + 1
  | .map entries => uptoBulkEntries entries + 1
  | .held _ => 1
def uptoBulkAll {H : Type} : List (DataW H) → Nat
  | [] => 0
  | d :: r => uptoBulk d + uptoBulkAll r
def uptoBulkEntries {H : Type} : List (Lit × DataW H) → Nat
  | [] => 0
  | x :: r => uptoBulkEntry x + uptoBulkEntries r
def uptoBulkEntry {H : Type} : Lit × DataW H → Nat
  | (.string bytes, d) => bytes.length + uptoBulk d + 1
  | (_, d) => uptoBulk d + 1
 end
def uptoSmall : (H : Type) → List (DataW H) → Bool := fun _ ds => decide (uptoBulkAll ds ≤ 1048576)
def OpenSpec.upto (s : _root_.Go.ChangeSpec) : _root_.Go.OpenSpec := { _root_.Go.OpenSpec.ofChange s with cond := some uptoSmall }

/-- 'pantilelaw04.BuddyApart', WHERE WHAT IT READS IS OF BULK AT MOST 1048576: true; the input reads as it did. -/
def buddyApartUptoRow : OpenClaim := { program := "ytcbkfilhgeeebaa", sum := "d9b78460275df0f3b7735690bd41dbfeb28959b00283fd5e024f336e0ebe9ea1", func := "pantile/pantilelaw04.BuddyApart", spec := "buddyApart", inPlace := ["slices.overlaps[int]"], unfollowed := true, recurses := true, apart := false, narrowed := true }
def BuddyApartUptoSaid : Prop := buddyApartUptoRow.holds Try.pinned (OpenSpec.upto buddyApartSpec)

/-- 'pantilelaw04.BuddyTakes', WHERE WHAT IT READS IS OF BULK AT MOST 1048576: true; the input reads as it did. -/
def buddyTakesUptoRow : OpenClaim := { program := "ytcbkfilhgeeebaa", sum := "d9b78460275df0f3b7735690bd41dbfeb28959b00283fd5e024f336e0ebe9ea1", func := "pantile/pantilelaw04.BuddyTakes", spec := "buddyTakes", inPlace := ["slices.overlaps[int]"], unfollowed := true, recurses := true, apart := false, narrowed := true }
def BuddyTakesUptoSaid : Prop := buddyTakesUptoRow.holds Try.pinned (OpenSpec.upto buddyTakesSpec)

/-- 'pantilelaw04.BuddyMerged', WHERE WHAT IT READS IS OF BULK AT MOST 1048576: true; the input reads as it did. -/
def buddyMergedUptoRow : OpenClaim := { program := "ytcbkfilhgeeebaa", sum := "d9b78460275df0f3b7735690bd41dbfeb28959b00283fd5e024f336e0ebe9ea1", func := "pantile/pantilelaw04.BuddyMerged", spec := "buddyMerged", inPlace := ["slices.overlaps[int]"], unfollowed := true, recurses := true, apart := false, narrowed := true }
def BuddyMergedUptoSaid : Prop := buddyMergedUptoRow.holds Try.pinned (OpenSpec.upto buddyMergedSpec)

/-- 'pantilelaw04.BuddyDoes', WHERE WHAT IT READS IS OF BULK AT MOST 1048576: true; the input reads as it did. -/
def buddyDoesUptoRow : OpenClaim := { program := "ytcbkfilhgeeebaa", sum := "d9b78460275df0f3b7735690bd41dbfeb28959b00283fd5e024f336e0ebe9ea1", func := "pantile/pantilelaw04.BuddyDoes", spec := "buddyDoes", inPlace := ["slices.overlaps[int]"], unfollowed := true, recurses := true, apart := false, narrowed := true }
def BuddyDoesUptoSaid : Prop := buddyDoesUptoRow.holds Try.pinned (OpenSpec.upto buddyDoesSpec)

/-- 'pantilelaw04.BuddyWhole', WHERE WHAT IT READS IS OF BULK AT MOST 1048576: true; the input reads as it did. -/
def buddyWholeUptoRow : OpenClaim := { program := "ytcbkfilhgeeebaa", sum := "d9b78460275df0f3b7735690bd41dbfeb28959b00283fd5e024f336e0ebe9ea1", func := "pantile/pantilelaw04.BuddyWhole", spec := "buddyWhole", inPlace := ["slices.overlaps[int]"], unfollowed := true, recurses := true, apart := false, narrowed := true }
def BuddyWholeUptoSaid : Prop := buddyWholeUptoRow.holds Try.pinned (OpenSpec.upto buddyWholeSpec)

/-- 'pantilelaw04.BuddyFinds', WHERE WHAT IT READS IS OF BULK AT MOST 1048576: true; the input reads as it did. -/
def buddyFindsUptoRow : OpenClaim := { program := "ytcbkfilhgeeebaa", sum := "d9b78460275df0f3b7735690bd41dbfeb28959b00283fd5e024f336e0ebe9ea1", func := "pantile/pantilelaw04.BuddyFinds", spec := "buddyFinds", inPlace := ["slices.overlaps[int]"], unfollowed := true, recurses := true, apart := false, narrowed := true }
def BuddyFindsUptoSaid : Prop := buddyFindsUptoRow.holds Try.pinned (OpenSpec.upto buddyFindsSpec)

/-- 'pantilelaw04.BuddyNone', WHERE WHAT IT READS IS OF BULK AT MOST 1048576: true; the input reads as it did. -/
def buddyNoneUptoRow : OpenClaim := { program := "ytcbkfilhgeeebaa", sum := "d9b78460275df0f3b7735690bd41dbfeb28959b00283fd5e024f336e0ebe9ea1", func := "pantile/pantilelaw04.BuddyNone", spec := "buddyNone", inPlace := ["slices.overlaps[int]"], unfollowed := true, recurses := true, apart := false, narrowed := true }
def BuddyNoneUptoSaid : Prop := buddyNoneUptoRow.holds Try.pinned (OpenSpec.upto buddyNoneSpec)

end Rows
end Go.Proofs.Ytcbkfilhgeeebaa
