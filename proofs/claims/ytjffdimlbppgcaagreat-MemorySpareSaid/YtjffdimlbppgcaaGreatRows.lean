/-
  No cell of these rows narrows 'for every input' (looked for: loops, veiled, ifaces, maps, wideKeys, modest, calm, conditions, laid).
  DERIVED. THE GIVEN ROWS OF THIS SEAT. 5 by the template 'for every input the law returns true; each argument reads behind the call as it read before'; 0 by the template 'total and deterministic' (their statements: YtjffdimlbppgcaaGreatTotals.lean).
  GIVEN WITH THE SEED: the statements are not yours to turn. If you find one false, say at which input.
  Laid BY PROGRAM, IN A SANDBOX (cutbox-rows.mjs): the forced cells as the released guide's own fill.sh prints them over the translation 62dc44eacfbbd6c1… (all of the seat's roots in one cut). By AI agents, Wed Nov 11 2026. No macro, syntax, notation, axiom, sorry.
-/
import Derived.Test.YtjffdimlbppgcaaGreatChecked
import GoSem.Claim
import GoSem.ClaimJoined
import GoSem.ClaimMapViews
import Derived.JoinedTies
import Derived.KernelRfl
namespace Go.Proofs.YtjffdimlbppgcaaGreat
/- THE CELL 'sum', in the pinned program and in every row, IS THE sha256 OF THE DUMP (.gsa) THAT YtjffdimlbppgcaaGreatProg.lean LOADS. Nothing in Lean hashes anything: it is a label: what it is worth is what the hold of that sum in a sandbox is worth. -/
noncomputable def Tryz.pinned : Pinned := { name := "ytjffdimlbppgcaagreat", sum := "62dc44eacfbbd6c1d14212d1f102660a67ea0883305716d48b691ee2881521a8", checked := Tryz.checked }
namespace Rows
def none {H : Type} : Left H := { results := [], args := [] }

/-- 'pantilelaw17.MemorySpare': WHATEVER THE INPUT: true; the input reads as it did. -/
def memorySpareSpec : ChangeSpec := { name := "memorySpare", fn := fun _ => fun
  | [d] => { results := [.lit (.bool true)], args := [d] }
  | _ => none }
def memorySpareRow : OpenClaim := { program := "ytjffdimlbppgcaagreat", sum := "62dc44eacfbbd6c1d14212d1f102660a67ea0883305716d48b691ee2881521a8", func := "pantile/pantilelaw17.MemorySpare", spec := "memorySpare", inPlace := ["slices.overlaps[int]"], unfollowed := true, recurses := true, apart := false }
def MemorySpareSaid : Prop := memorySpareRow.holds Tryz.pinned (OpenSpec.ofChange memorySpareSpec)

/-- ITS FALSE NEIGHBOUR: 'it returns false'. Refute it at one input. -/
def memorySpareWrong : ChangeSpec := { name := "memorySpare", fn := fun _ => fun
  | [d] => { results := [.lit (.bool false)], args := [d] }
  | _ => none }
def MemorySpareWrongFalsely : Prop := memorySpareRow.holds Tryz.pinned (OpenSpec.ofChange memorySpareWrong)

/-- 'pantilelaw17.MemoryApart': WHATEVER THE INPUT: true; the input reads as it did. -/
def memoryApartSpec : ChangeSpec := { name := "memoryApart", fn := fun _ => fun
  | [d1, d2] => { results := [.lit (.bool true)], args := [d1, d2] }
  | _ => none }
def memoryApartRow : OpenClaim := { program := "ytjffdimlbppgcaagreat", sum := "62dc44eacfbbd6c1d14212d1f102660a67ea0883305716d48b691ee2881521a8", func := "pantile/pantilelaw17.MemoryApart", spec := "memoryApart", inPlace := ["slices.overlaps[int]"], unfollowed := true, recurses := true, apart := false }
def MemoryApartSaid : Prop := memoryApartRow.holds Tryz.pinned (OpenSpec.ofChange memoryApartSpec)

/-- ITS FALSE NEIGHBOUR: 'it returns false'. Refute it at one input. -/
def memoryApartWrong : ChangeSpec := { name := "memoryApart", fn := fun _ => fun
  | [d1, d2] => { results := [.lit (.bool false)], args := [d1, d2] }
  | _ => none }
def MemoryApartWrongFalsely : Prop := memoryApartRow.holds Tryz.pinned (OpenSpec.ofChange memoryApartWrong)

/-- 'pantilelaw17.MemoryRight': WHATEVER THE INPUT: true; the input reads as it did. -/
def memoryRightSpec : ChangeSpec := { name := "memoryRight", fn := fun _ => fun
  | [d1, d2, d3] => { results := [.lit (.bool true)], args := [d1, d2, d3] }
  | _ => none }
def memoryRightRow : OpenClaim := { program := "ytjffdimlbppgcaagreat", sum := "62dc44eacfbbd6c1d14212d1f102660a67ea0883305716d48b691ee2881521a8", func := "pantile/pantilelaw17.MemoryRight", spec := "memoryRight", inPlace := ["slices.overlaps[int]"], unfollowed := true, recurses := true, apart := false }
def MemoryRightSaid : Prop := memoryRightRow.holds Tryz.pinned (OpenSpec.ofChange memoryRightSpec)

/-- ITS FALSE NEIGHBOUR: 'it returns false'. Refute it at one input. -/
def memoryRightWrong : ChangeSpec := { name := "memoryRight", fn := fun _ => fun
  | [d1, d2, d3] => { results := [.lit (.bool false)], args := [d1, d2, d3] }
  | _ => none }
def MemoryRightWrongFalsely : Prop := memoryRightRow.holds Tryz.pinned (OpenSpec.ofChange memoryRightWrong)

/-- 'pantilelaw17.MemoryWhole': WHATEVER THE INPUT: true; the input reads as it did. -/
def memoryWholeSpec : ChangeSpec := { name := "memoryWhole", fn := fun _ => fun
  | [d1, d2, d3] => { results := [.lit (.bool true)], args := [d1, d2, d3] }
  | _ => none }
def memoryWholeRow : OpenClaim := { program := "ytjffdimlbppgcaagreat", sum := "62dc44eacfbbd6c1d14212d1f102660a67ea0883305716d48b691ee2881521a8", func := "pantile/pantilelaw17.MemoryWhole", spec := "memoryWhole", inPlace := ["slices.overlaps[int]"], unfollowed := true, recurses := true, apart := false }
def MemoryWholeSaid : Prop := memoryWholeRow.holds Tryz.pinned (OpenSpec.ofChange memoryWholeSpec)

/-- ITS FALSE NEIGHBOUR: 'it returns false'. Refute it at one input. -/
def memoryWholeWrong : ChangeSpec := { name := "memoryWhole", fn := fun _ => fun
  | [d1, d2, d3] => { results := [.lit (.bool false)], args := [d1, d2, d3] }
  | _ => none }
def MemoryWholeWrongFalsely : Prop := memoryWholeRow.holds Tryz.pinned (OpenSpec.ofChange memoryWholeWrong)

/-- 'pantilelaw17.MemoryDoes': WHATEVER THE INPUT: true; the input reads as it did. -/
def memoryDoesSpec : ChangeSpec := { name := "memoryDoes", fn := fun _ => fun
  | [d1, d2, d3] => { results := [.lit (.bool true)], args := [d1, d2, d3] }
  | _ => none }
def memoryDoesRow : OpenClaim := { program := "ytjffdimlbppgcaagreat", sum := "62dc44eacfbbd6c1d14212d1f102660a67ea0883305716d48b691ee2881521a8", func := "pantile/pantilelaw17.MemoryDoes", spec := "memoryDoes", inPlace := ["slices.overlaps[int]"], unfollowed := true, recurses := true, apart := false }
def MemoryDoesSaid : Prop := memoryDoesRow.holds Tryz.pinned (OpenSpec.ofChange memoryDoesSpec)

/-- ITS FALSE NEIGHBOUR: 'it returns false'. Refute it at one input. -/
def memoryDoesWrong : ChangeSpec := { name := "memoryDoes", fn := fun _ => fun
  | [d1, d2, d3] => { results := [.lit (.bool false)], args := [d1, d2, d3] }
  | _ => none }
def MemoryDoesWrongFalsely : Prop := memoryDoesRow.holds Tryz.pinned (OpenSpec.ofChange memoryDoesWrong)

/- THE SECOND FORM. 'bulk': how many values and letters a reading holds, each counted each time it is reached (what is shared counts as often as it is met; a slice's spare places count too). A statement '..UptoSaid' is the law's where the arguments, and the package variables that the reading takes, are together of bulk at most 1048576: NARROWER than '..Said'. Prove '..Said' where nothing that the law and all that it calls make is longer than what came in: it says more and counts as full. Else prove '..UptoSaid'. A law counts once. -/
mutual
def uptoBulk {H : Type} : DataW H → Nat
  | .lit (.string bytes) => bytes.length + 1
  | .lit _ => 1
  | .nil => 1
  | .ptr d => uptoBulk d + 1
  | .slice elems spare => uptoBulkAll elems + uptoBulkAll spare + 1
  | .agg parts => uptoBulkAll parts + 1
  | .iface _ d => uptoBulk d + 1
  | .map entries => uptoBulkEntries entries + 1
  | .held _ => 1
def uptoBulkAll {H : Type} : List (DataW H) → Nat
  | [] => 0
  | d :: r => uptoBulk d + uptoBulkAll r
def uptoBulkEntries {H : Type} : List (Lit × DataW H) → Nat
  | [] => 0
  | x :: r => uptoBulkEntry x + uptoBulkEntries r
def uptoBulkEntry {H : Type} : Lit × DataW H → Nat
  | (.string bytes, d) => bytes.length + uptoBulk d + 1
  | (_, d) => uptoBulk d + 1
 end
def uptoSmall : (H : Type) → List (DataW H) → Bool := fun _ ds => decide (uptoBulkAll ds ≤ 1048576)
def OpenSpec.upto (s : _root_.Go.ChangeSpec) : _root_.Go.OpenSpec := { _root_.Go.OpenSpec.ofChange s with cond := some uptoSmall }

/-- 'pantilelaw17.MemorySpare', WHERE WHAT IT READS IS OF BULK AT MOST 1048576: true; the input reads as it did. -/
def memorySpareUptoRow : OpenClaim := { program := "ytjffdimlbppgcaagreat", sum := "62dc44eacfbbd6c1d14212d1f102660a67ea0883305716d48b691ee2881521a8", func := "pantile/pantilelaw17.MemorySpare", spec := "memorySpare", inPlace := ["slices.overlaps[int]"], unfollowed := true, recurses := true, apart := false, narrowed := true }
def MemorySpareUptoSaid : Prop := memorySpareUptoRow.holds Tryz.pinned (OpenSpec.upto memorySpareSpec)

/-- 'pantilelaw17.MemoryApart', WHERE WHAT IT READS IS OF BULK AT MOST 1048576: true; the input reads as it did. -/
def memoryApartUptoRow : OpenClaim := { program := "ytjffdimlbppgcaagreat", sum := "62dc44eacfbbd6c1d14212d1f102660a67ea0883305716d48b691ee2881521a8", func := "pantile/pantilelaw17.MemoryApart", spec := "memoryApart", inPlace := ["slices.overlaps[int]"], unfollowed := true, recurses := true, apart := false, narrowed := true }
def MemoryApartUptoSaid : Prop := memoryApartUptoRow.holds Tryz.pinned (OpenSpec.upto memoryApartSpec)

/-- 'pantilelaw17.MemoryRight', WHERE WHAT IT READS IS OF BULK AT MOST 1048576: true; the input reads as it did. -/
def memoryRightUptoRow : OpenClaim := { program := "ytjffdimlbppgcaagreat", sum := "62dc44eacfbbd6c1d14212d1f102660a67ea0883305716d48b691ee2881521a8", func := "pantile/pantilelaw17.MemoryRight", spec := "memoryRight", inPlace := ["slices.overlaps[int]"], unfollowed := true, recurses := true, apart := false, narrowed := true }
def MemoryRightUptoSaid : Prop := memoryRightUptoRow.holds Tryz.pinned (OpenSpec.upto memoryRightSpec)

/-- 'pantilelaw17.MemoryWhole', WHERE WHAT IT READS IS OF BULK AT MOST 1048576: true; the input reads as it did. -/
def memoryWholeUptoRow : OpenClaim := { program := "ytjffdimlbppgcaagreat", sum := "62dc44eacfbbd6c1d14212d1f102660a67ea0883305716d48b691ee2881521a8", func := "pantile/pantilelaw17.MemoryWhole", spec := "memoryWhole", inPlace := ["slices.overlaps[int]"], unfollowed := true, recurses := true, apart := false, narrowed := true }
def MemoryWholeUptoSaid : Prop := memoryWholeUptoRow.holds Tryz.pinned (OpenSpec.upto memoryWholeSpec)

/-- 'pantilelaw17.MemoryDoes', WHERE WHAT IT READS IS OF BULK AT MOST 1048576: true; the input reads as it did. -/
def memoryDoesUptoRow : OpenClaim := { program := "ytjffdimlbppgcaagreat", sum := "62dc44eacfbbd6c1d14212d1f102660a67ea0883305716d48b691ee2881521a8", func := "pantile/pantilelaw17.MemoryDoes", spec := "memoryDoes", inPlace := ["slices.overlaps[int]"], unfollowed := true, recurses := true, apart := false, narrowed := true }
def MemoryDoesUptoSaid : Prop := memoryDoesUptoRow.holds Tryz.pinned (OpenSpec.upto memoryDoesSpec)

end Rows
end Go.Proofs.YtjffdimlbppgcaaGreat
