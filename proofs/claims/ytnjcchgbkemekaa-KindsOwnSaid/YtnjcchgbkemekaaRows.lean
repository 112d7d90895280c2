/-
  No cell of these rows narrows 'for every input' (looked for: loops, veiled, ifaces, maps, wideKeys, modest, calm, conditions, laid).
  DERIVED. THE GIVEN ROWS OF THIS SEAT. 5 by the template 'for every input the law returns true; each argument reads behind the call as it read before'; 0 by the template 'total and deterministic' (their statements: YtnjcchgbkemekaaTotals.lean).
  GIVEN WITH THE SEED: the statements are not yours to turn. If you find one false, say at which input.
  Laid BY PROGRAM, IN A SANDBOX (cutbox-rows.mjs): the forced cells as the released guide's own fill.sh prints them over the translation 50fe386392450ae7… (all of the seat's roots in one cut). By AI agents, Wed Nov 11 2026. No macro, syntax, notation, axiom, sorry.
-/
import Derived.Test.YtnjcchgbkemekaaChecked
import GoSem.Claim
import GoSem.ClaimJoined
import GoSem.ClaimMapViews
import Derived.JoinedTies
import Derived.KernelRfl
namespace Go.Proofs.Ytnjcchgbkemekaa
/- THE CELL 'sum', in the pinned program and in every row, IS THE sha256 OF THE DUMP (.gsa) THAT YtnjcchgbkemekaaProg.lean LOADS. Nothing in Lean hashes anything: it is a label: what it is worth is what the hold of that sum in a sandbox is worth. -/
noncomputable def Try.pinned : Pinned := { name := "ytnjcchgbkemekaa", sum := "50fe386392450ae782937f69a804c6f49d0b00f838708cb2a30805c233ccf0e7", checked := Try.checked }
namespace Rows
def none {H : Type} : Left H := { results := [], args := [] }

/-- 'pantilelaw05.KindsIsolated': WHATEVER THE INPUT: true; the input reads as it did. -/
def kindsIsolatedSpec : ChangeSpec := { name := "kindsIsolated", fn := fun _ => fun
  | [d] => { results := [.lit (.bool true)], args := [d] }
  | _ => none }
def kindsIsolatedRow : OpenClaim := { program := "ytnjcchgbkemekaa", sum := "50fe386392450ae782937f69a804c6f49d0b00f838708cb2a30805c233ccf0e7", func := "pantile/pantilelaw05.KindsIsolated", spec := "kindsIsolated", inPlace := ["slices.overlaps[int]"], unfollowed := true, recurses := true, apart := false }
def KindsIsolatedSaid : Prop := kindsIsolatedRow.holds Try.pinned (OpenSpec.ofChange kindsIsolatedSpec)

/-- ITS FALSE NEIGHBOUR: 'it returns false'. Refute it at one input. -/
def kindsIsolatedWrong : ChangeSpec := { name := "kindsIsolated", fn := fun _ => fun
  | [d] => { results := [.lit (.bool false)], args := [d] }
  | _ => none }
def KindsIsolatedWrongFalsely : Prop := kindsIsolatedRow.holds Try.pinned (OpenSpec.ofChange kindsIsolatedWrong)

/-- 'pantilelaw05.KindsOwn': WHATEVER THE INPUT: true; the input reads as it did. -/
def kindsOwnSpec : ChangeSpec := { name := "kindsOwn", fn := fun _ => fun
  | [d] => { results := [.lit (.bool true)], args := [d] }
  | _ => none }
def kindsOwnRow : OpenClaim := { program := "ytnjcchgbkemekaa", sum := "50fe386392450ae782937f69a804c6f49d0b00f838708cb2a30805c233ccf0e7", func := "pantile/pantilelaw05.KindsOwn", spec := "kindsOwn", inPlace := ["slices.overlaps[int]"], unfollowed := true, recurses := true, apart := false }
def KindsOwnSaid : Prop := kindsOwnRow.holds Try.pinned (OpenSpec.ofChange kindsOwnSpec)

/-- ITS FALSE NEIGHBOUR: 'it returns false'. Refute it at one input. -/
def kindsOwnWrong : ChangeSpec := { name := "kindsOwn", fn := fun _ => fun
  | [d] => { results := [.lit (.bool false)], args := [d] }
  | _ => none }
def KindsOwnWrongFalsely : Prop := kindsOwnRow.holds Try.pinned (OpenSpec.ofChange kindsOwnWrong)

/-- 'pantilelaw05.KindsWhole': WHATEVER THE INPUT: true; the input reads as it did. -/
def kindsWholeSpec : ChangeSpec := { name := "kindsWhole", fn := fun _ => fun
  | [d1, d2] => { results := [.lit (.bool true)], args := [d1, d2] }
  | _ => none }
def kindsWholeRow : OpenClaim := { program := "ytnjcchgbkemekaa", sum := "50fe386392450ae782937f69a804c6f49d0b00f838708cb2a30805c233ccf0e7", func := "pantile/pantilelaw05.KindsWhole", spec := "kindsWhole", inPlace := ["slices.overlaps[int]"], unfollowed := true, recurses := true, apart := false }
def KindsWholeSaid : Prop := kindsWholeRow.holds Try.pinned (OpenSpec.ofChange kindsWholeSpec)

/-- ITS FALSE NEIGHBOUR: 'it returns false'. Refute it at one input. -/
def kindsWholeWrong : ChangeSpec := { name := "kindsWhole", fn := fun _ => fun
  | [d1, d2] => { results := [.lit (.bool false)], args := [d1, d2] }
  | _ => none }
def KindsWholeWrongFalsely : Prop := kindsWholeRow.holds Try.pinned (OpenSpec.ofChange kindsWholeWrong)

/-- 'pantilelaw05.KindsDoes': WHATEVER THE INPUT: true; the input reads as it did. -/
def kindsDoesSpec : ChangeSpec := { name := "kindsDoes", fn := fun _ => fun
  | [d1, d2] => { results := [.lit (.bool true)], args := [d1, d2] }
  | _ => none }
def kindsDoesRow : OpenClaim := { program := "ytnjcchgbkemekaa", sum := "50fe386392450ae782937f69a804c6f49d0b00f838708cb2a30805c233ccf0e7", func := "pantile/pantilelaw05.KindsDoes", spec := "kindsDoes", inPlace := ["slices.overlaps[int]"], unfollowed := true, recurses := true, apart := false }
def KindsDoesSaid : Prop := kindsDoesRow.holds Try.pinned (OpenSpec.ofChange kindsDoesSpec)

/-- ITS FALSE NEIGHBOUR: 'it returns false'. Refute it at one input. -/
def kindsDoesWrong : ChangeSpec := { name := "kindsDoes", fn := fun _ => fun
  | [d1, d2] => { results := [.lit (.bool false)], args := [d1, d2] }
  | _ => none }
def KindsDoesWrongFalsely : Prop := kindsDoesRow.holds Try.pinned (OpenSpec.ofChange kindsDoesWrong)

/-- 'pantilelaw05.KindsNone': WHATEVER THE INPUT: true; the input reads as it did. -/
def kindsNoneSpec : ChangeSpec := { name := "kindsNone", fn := fun _ => fun
  | [d] => { results := [.lit (.bool true)], args := [d] }
  | _ => none }
def kindsNoneRow : OpenClaim := { program := "ytnjcchgbkemekaa", sum := "50fe386392450ae782937f69a804c6f49d0b00f838708cb2a30805c233ccf0e7", func := "pantile/pantilelaw05.KindsNone", spec := "kindsNone", inPlace := ["slices.overlaps[int]"], unfollowed := true, recurses := true, apart := false }
def KindsNoneSaid : Prop := kindsNoneRow.holds Try.pinned (OpenSpec.ofChange kindsNoneSpec)

/-- ITS FALSE NEIGHBOUR: 'it returns false'. Refute it at one input. -/
def kindsNoneWrong : ChangeSpec := { name := "kindsNone", fn := fun _ => fun
  | [d] => { results := [.lit (.bool false)], args := [d] }
  | _ => none }
def KindsNoneWrongFalsely : Prop := kindsNoneRow.holds Try.pinned (OpenSpec.ofChange kindsNoneWrong)

/- THE SECOND FORM. 'bulk': how many values and letters a reading holds, each counted each time it is reached (what is shared counts as often as it is met; a slice's spare places count too). A statement '..UptoSaid' is the law's where the arguments, and the package variables that the reading takes, are together of bulk at most 1048576: NARROWER than '..Said'. Prove '..Said' where nothing that the law and all that it calls make is longer than what came in: it says more and counts as full. Else prove '..UptoSaid'. A law counts once. -/
mutual
def uptoBulk {H : Type} : DataW H → Nat
  | .lit (.string bytes) => bytes.length + 1
  | .lit _ => 1
  | .nil => 1
  | .ptr d => uptoBulk d + 1
  | .slice elems spare => uptoBulkAll elems + uptoBulkAll spare + 1
  | .agg parts => uptoBulkAll parts + 1
  | .iface _ d => uptoBulk d + 1
  | .map entries => uptoBulkEntries entries + 1
  | .held _ => 1
def uptoBulkAll {H : Type} : List (DataW H) → Nat
  | [] => 0
  | d :: r => uptoBulk d + uptoBulkAll r
def uptoBulkEntries {H : Type} : List (Lit × DataW H) → Nat
  | [] => 0
  | x :: r => uptoBulkEntry x + uptoBulkEntries r
def uptoBulkEntry {H : Type} : Lit × DataW H → Nat
  | (.string bytes, d) => bytes.length + uptoBulk d + 1
  | (_, d) => uptoBulk d + 1
 end
def uptoSmall : (H : Type) → List (DataW H) → Bool := fun _ ds => decide (uptoBulkAll ds ≤ 1048576)
def OpenSpec.upto (s : _root_.Go.ChangeSpec) : _root_.Go.OpenSpec := { _root_.Go.OpenSpec.ofChange s with cond := some uptoSmall }

/-- 'pantilelaw05.KindsIsolated', WHERE WHAT IT READS IS OF BULK AT MOST 1048576: true; the input reads as it did. -/
def kindsIsolatedUptoRow : OpenClaim := { program := "ytnjcchgbkemekaa", sum := "50fe386392450ae782937f69a804c6f49d0b00f838708cb2a30805c233ccf0e7", func := "pantile/pantilelaw05.KindsIsolated", spec := "kindsIsolated", inPlace := ["slices.overlaps[int]"], unfollowed := true, recurses := true, apart := false, narrowed := true }
def KindsIsolatedUptoSaid : Prop := kindsIsolatedUptoRow.holds Try.pinned (OpenSpec.upto kindsIsolatedSpec)

/-- 'pantilelaw05.KindsOwn', WHERE WHAT IT READS IS OF BULK AT MOST 1048576: true; the input reads as it did. -/
def kindsOwnUptoRow : OpenClaim := { program := "ytnjcchgbkemekaa", sum := "50fe386392450ae782937f69a804c6f49d0b00f838708cb2a30805c233ccf0e7", func := "pantile/pantilelaw05.KindsOwn", spec := "kindsOwn", inPlace := ["slices.overlaps[int]"], unfollowed := true, recurses := true, apart := false, narrowed := true }
def KindsOwnUptoSaid : Prop := kindsOwnUptoRow.holds Try.pinned (OpenSpec.upto kindsOwnSpec)

/-- 'pantilelaw05.KindsWhole', WHERE WHAT IT READS IS OF BULK AT MOST 1048576: true; the input reads as it did. -/
def kindsWholeUptoRow : OpenClaim := { program := "ytnjcchgbkemekaa", sum := "50fe386392450ae782937f69a804c6f49d0b00f838708cb2a30805c233ccf0e7", func := "pantile/pantilelaw05.KindsWhole", spec := "kindsWhole", inPlace := ["slices.overlaps[int]"], unfollowed := true, recurses := true, apart := false, narrowed := true }
def KindsWholeUptoSaid : Prop := kindsWholeUptoRow.holds Try.pinned (OpenSpec.upto kindsWholeSpec)

/-- 'pantilelaw05.KindsDoes', WHERE WHAT IT READS IS OF BULK AT MOST 1048576: true; the input reads as it did. -/
def kindsDoesUptoRow : OpenClaim := { program := "ytnjcchgbkemekaa", sum := "50fe386392450ae782937f69a804c6f49d0b00f838708cb2a30805c233ccf0e7", func := "pantile/pantilelaw05.KindsDoes", spec := "kindsDoes", inPlace := ["slices.overlaps[int]"], unfollowed := true, recurses := true, apart := false, narrowed := true }
def KindsDoesUptoSaid : Prop := kindsDoesUptoRow.holds Try.pinned (OpenSpec.upto kindsDoesSpec)

/-- 'pantilelaw05.KindsNone', WHERE WHAT IT READS IS OF BULK AT MOST 1048576: true; the input reads as it did. -/
def kindsNoneUptoRow : OpenClaim := { program := "ytnjcchgbkemekaa", sum := "50fe386392450ae782937f69a804c6f49d0b00f838708cb2a30805c233ccf0e7", func := "pantile/pantilelaw05.KindsNone", spec := "kindsNone", inPlace := ["slices.overlaps[int]"], unfollowed := true, recurses := true, apart := false, narrowed := true }
def KindsNoneUptoSaid : Prop := kindsNoneUptoRow.holds Try.pinned (OpenSpec.upto kindsNoneSpec)

end Rows
end Go.Proofs.Ytnjcchgbkemekaa
