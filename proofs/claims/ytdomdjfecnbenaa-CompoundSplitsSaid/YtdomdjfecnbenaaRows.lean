/-
  No cell of these rows narrows 'for every input' (looked for: loops, veiled, ifaces, maps, wideKeys, modest, calm, conditions, laid).
  DERIVED. THE GIVEN ROWS OF THIS SEAT. 5 by the template 'for every input the law returns true; each argument reads behind the call as it read before'; 0 by the template 'total and deterministic' (their statements: YtdomdjfecnbenaaTotals.lean).
  GIVEN WITH THE SEED: the statements are not yours to turn. If you find one false, say at which input.
  Laid BY PROGRAM, IN A SANDBOX (cutbox-rows.mjs): the forced cells as the released guide's own fill.sh prints them over the translation 6923eeaa8dfb9755… (all of the seat's roots in one cut). By AI agents, Wed Nov 11 2026. No macro, syntax, notation, axiom, sorry.
-/
import Derived.Test.YtdomdjfecnbenaaChecked
import GoSem.Claim
import GoSem.ClaimJoined
import GoSem.ClaimMapViews
import Derived.JoinedTies
import Derived.KernelRfl
namespace Go.Proofs.Ytdomdjfecnbenaa
/- THE CELL 'sum', in the pinned program and in every row, IS THE sha256 OF THE DUMP (.gsa) THAT YtdomdjfecnbenaaProg.lean LOADS. Nothing in Lean hashes anything: it is a label: what it is worth is what the hold of that sum in a sandbox is worth. -/
noncomputable def Try.pinned : Pinned := { name := "ytdomdjfecnbenaa", sum := "6923eeaa8dfb9755080f167120e0e2eb2c95bbc7d75cc4ebae164acccaf9ed1b", checked := Try.checked }
namespace Rows
def none {H : Type} : Left H := { results := [], args := [] }

/-- 'pantilelaw24.CompoundAll': WHATEVER THE INPUT: true; the input reads as it did. -/
def compoundAllSpec : ChangeSpec := { name := "compoundAll", fn := fun _ => fun
  | [d1, d2] => { results := [.lit (.bool true)], args := [d1, d2] }
  | _ => none }
def compoundAllRow : OpenClaim := { program := "ytdomdjfecnbenaa", sum := "6923eeaa8dfb9755080f167120e0e2eb2c95bbc7d75cc4ebae164acccaf9ed1b", func := "pantile/pantilelaw24.CompoundAll", spec := "compoundAll", inPlace := ["slices.overlaps[pantile/api.Compound]"], unfollowed := true, recurses := true, apart := false }
def CompoundAllSaid : Prop := compoundAllRow.holds Try.pinned (OpenSpec.ofChange compoundAllSpec)

/-- ITS FALSE NEIGHBOUR: 'it returns false'. Refute it at one input. -/
def compoundAllWrong : ChangeSpec := { name := "compoundAll", fn := fun _ => fun
  | [d1, d2] => { results := [.lit (.bool false)], args := [d1, d2] }
  | _ => none }
def CompoundAllWrongFalsely : Prop := compoundAllRow.holds Try.pinned (OpenSpec.ofChange compoundAllWrong)

/-- 'pantilelaw24.CompoundKept': WHATEVER THE INPUT: true; the input reads as it did. -/
def compoundKeptSpec : ChangeSpec := { name := "compoundKept", fn := fun _ => fun
  | [d] => { results := [.lit (.bool true)], args := [d] }
  | _ => none }
def compoundKeptRow : OpenClaim := { program := "ytdomdjfecnbenaa", sum := "6923eeaa8dfb9755080f167120e0e2eb2c95bbc7d75cc4ebae164acccaf9ed1b", func := "pantile/pantilelaw24.CompoundKept", spec := "compoundKept", inPlace := ["slices.overlaps[pantile/api.Compound]"], unfollowed := true, recurses := true, apart := false }
def CompoundKeptSaid : Prop := compoundKeptRow.holds Try.pinned (OpenSpec.ofChange compoundKeptSpec)

/-- ITS FALSE NEIGHBOUR: 'it returns false'. Refute it at one input. -/
def compoundKeptWrong : ChangeSpec := { name := "compoundKept", fn := fun _ => fun
  | [d] => { results := [.lit (.bool false)], args := [d] }
  | _ => none }
def CompoundKeptWrongFalsely : Prop := compoundKeptRow.holds Try.pinned (OpenSpec.ofChange compoundKeptWrong)

/-- 'pantilelaw24.CompoundSplits': WHATEVER THE INPUT: true; the input reads as it did. -/
def compoundSplitsSpec : ChangeSpec := { name := "compoundSplits", fn := fun _ => fun
  | [d] => { results := [.lit (.bool true)], args := [d] }
  | _ => none }
def compoundSplitsRow : OpenClaim := { program := "ytdomdjfecnbenaa", sum := "6923eeaa8dfb9755080f167120e0e2eb2c95bbc7d75cc4ebae164acccaf9ed1b", func := "pantile/pantilelaw24.CompoundSplits", spec := "compoundSplits", inPlace := ["slices.overlaps[pantile/api.Compound]"], unfollowed := true, recurses := true, apart := false }
def CompoundSplitsSaid : Prop := compoundSplitsRow.holds Try.pinned (OpenSpec.ofChange compoundSplitsSpec)

/-- ITS FALSE NEIGHBOUR: 'it returns false'. Refute it at one input. -/
def compoundSplitsWrong : ChangeSpec := { name := "compoundSplits", fn := fun _ => fun
  | [d] => { results := [.lit (.bool false)], args := [d] }
  | _ => none }
def CompoundSplitsWrongFalsely : Prop := compoundSplitsRow.holds Try.pinned (OpenSpec.ofChange compoundSplitsWrong)

/-- 'pantilelaw24.CompoundRegains': WHATEVER THE INPUT: true; the input reads as it did. -/
def compoundRegainsSpec : ChangeSpec := { name := "compoundRegains", fn := fun _ => fun
  | [d1, d2] => { results := [.lit (.bool true)], args := [d1, d2] }
  | _ => none }
def compoundRegainsRow : OpenClaim := { program := "ytdomdjfecnbenaa", sum := "6923eeaa8dfb9755080f167120e0e2eb2c95bbc7d75cc4ebae164acccaf9ed1b", func := "pantile/pantilelaw24.CompoundRegains", spec := "compoundRegains", inPlace := ["slices.overlaps[pantile/api.Compound]"], unfollowed := true, recurses := true, apart := false }
def CompoundRegainsSaid : Prop := compoundRegainsRow.holds Try.pinned (OpenSpec.ofChange compoundRegainsSpec)

/-- ITS FALSE NEIGHBOUR: 'it returns false'. Refute it at one input. -/
def compoundRegainsWrong : ChangeSpec := { name := "compoundRegains", fn := fun _ => fun
  | [d1, d2] => { results := [.lit (.bool false)], args := [d1, d2] }
  | _ => none }
def CompoundRegainsWrongFalsely : Prop := compoundRegainsRow.holds Try.pinned (OpenSpec.ofChange compoundRegainsWrong)

/-- 'pantilelaw24.CompoundNone': WHATEVER THE INPUT: true; the input reads as it did. -/
def compoundNoneSpec : ChangeSpec := { name := "compoundNone", fn := fun _ => fun
  | [d] => { results := [.lit (.bool true)], args := [d] }
  | _ => none }
def compoundNoneRow : OpenClaim := { program := "ytdomdjfecnbenaa", sum := "6923eeaa8dfb9755080f167120e0e2eb2c95bbc7d75cc4ebae164acccaf9ed1b", func := "pantile/pantilelaw24.CompoundNone", spec := "compoundNone", inPlace := ["slices.overlaps[pantile/api.Compound]"], unfollowed := true, recurses := true, apart := false }
def CompoundNoneSaid : Prop := compoundNoneRow.holds Try.pinned (OpenSpec.ofChange compoundNoneSpec)

/-- ITS FALSE NEIGHBOUR: 'it returns false'. Refute it at one input. -/
def compoundNoneWrong : ChangeSpec := { name := "compoundNone", fn := fun _ => fun
  | [d] => { results := [.lit (.bool false)], args := [d] }
  | _ => none }
def CompoundNoneWrongFalsely : Prop := compoundNoneRow.holds Try.pinned (OpenSpec.ofChange compoundNoneWrong)

/- THE SECOND FORM. 'bulk': how many values and letters a reading holds, each counted each time it is reached (what is shared counts as often as it is met; a slice's spare places count too). A statement '..UptoSaid' is the law's where the arguments, and the package variables that the reading takes, are together of bulk at most 1048576: NARROWER than '..Said'. Prove '..Said' where nothing that the law and all that it calls make is longer than what came in: it says more and counts as full. Else prove '..UptoSaid'. A law counts once. -/
mutual
def uptoBulk {H : Type} : DataW H → Nat
  | .lit (.string bytes) => bytes.length + 1
  | .lit _ => 1
  | .nil => 1
  | .ptr d => uptoBulk d + 1
  | .slice elems spare => uptoBulkAll elems + uptoBulkAll spare + 1
  | .agg parts => uptoBulkAll parts + 1
  | .iface _ d => uptoBulk d + 1
  | .map entries => uptoBulkEntries entries + 1
  | .held _ => 1
def uptoBulkAll {H : Type} : List (DataW H) → Nat
  | [] => 0
  | d :: r => uptoBulk d + uptoBulkAll r
def uptoBulkEntries {H : Type} : List (Lit × DataW H) → Nat
  | [] => 0
  | x :: r => uptoBulkEntry x + uptoBulkEntries r
def uptoBulkEntry {H : Type} : Lit × DataW H → Nat
  | (.string bytes, d) => bytes.length + uptoBulk d + 1
  | (_, d) => uptoBulk d + 1
 end
def uptoSmall : (H : Type) → List (DataW H) → Bool := fun _ ds => decide (uptoBulkAll ds ≤ 1048576)
def OpenSpec.upto (s : _root_.Go.ChangeSpec) : _root_.Go.OpenSpec := { _root_.Go.OpenSpec.ofChange s with cond := some uptoSmall }

/-- 'pantilelaw24.CompoundAll', WHERE WHAT IT READS IS OF BULK AT MOST 1048576: true; the input reads as it did. -/
def compoundAllUptoRow : OpenClaim := { program := "ytdomdjfecnbenaa", sum := "6923eeaa8dfb9755080f167120e0e2eb2c95bbc7d75cc4ebae164acccaf9ed1b", func := "pantile/pantilelaw24.CompoundAll", spec := "compoundAll", inPlace := ["slices.overlaps[pantile/api.Compound]"], unfollowed := true, recurses := true, apart := false, narrowed := true }
def CompoundAllUptoSaid : Prop := compoundAllUptoRow.holds Try.pinned (OpenSpec.upto compoundAllSpec)

/-- 'pantilelaw24.CompoundKept', WHERE WHAT IT READS IS OF BULK AT MOST 1048576: true; the input reads as it did. -/
def compoundKeptUptoRow : OpenClaim := { program := "ytdomdjfecnbenaa", sum := "6923eeaa8dfb9755080f167120e0e2eb2c95bbc7d75cc4ebae164acccaf9ed1b", func := "pantile/pantilelaw24.CompoundKept", spec := "compoundKept", inPlace := ["slices.overlaps[pantile/api.Compound]"], unfollowed := true, recurses := true, apart := false, narrowed := true }
def CompoundKeptUptoSaid : Prop := compoundKeptUptoRow.holds Try.pinned (OpenSpec.upto compoundKeptSpec)

/-- 'pantilelaw24.CompoundSplits', WHERE WHAT IT READS IS OF BULK AT MOST 1048576: true; the input reads as it did. -/
def compoundSplitsUptoRow : OpenClaim := { program := "ytdomdjfecnbenaa", sum := "6923eeaa8dfb9755080f167120e0e2eb2c95bbc7d75cc4ebae164acccaf9ed1b", func := "pantile/pantilelaw24.CompoundSplits", spec := "compoundSplits", inPlace := ["slices.overlaps[pantile/api.Compound]"], unfollowed := true, recurses := true, apart := false, narrowed := true }
def CompoundSplitsUptoSaid : Prop := compoundSplitsUptoRow.holds Try.pinned (OpenSpec.upto compoundSplitsSpec)

/-- 'pantilelaw24.CompoundRegains', WHERE WHAT IT READS IS OF BULK AT MOST 1048576: true; the input reads as it did. -/
def compoundRegainsUptoRow : OpenClaim := { program := "ytdomdjfecnbenaa", sum := "6923eeaa8dfb9755080f167120e0e2eb2c95bbc7d75cc4ebae164acccaf9ed1b", func := "pantile/pantilelaw24.CompoundRegains", spec := "compoundRegains", inPlace := ["slices.overlaps[pantile/api.Compound]"], unfollowed := true, recurses := true, apart := false, narrowed := true }
def CompoundRegainsUptoSaid : Prop := compoundRegainsUptoRow.holds Try.pinned (OpenSpec.upto compoundRegainsSpec)

/-- 'pantilelaw24.CompoundNone', WHERE WHAT IT READS IS OF BULK AT MOST 1048576: true; the input reads as it did. -/
def compoundNoneUptoRow : OpenClaim := { program := "ytdomdjfecnbenaa", sum := "6923eeaa8dfb9755080f167120e0e2eb2c95bbc7d75cc4ebae164acccaf9ed1b", func := "pantile/pantilelaw24.CompoundNone", spec := "compoundNone", inPlace := ["slices.overlaps[pantile/api.Compound]"], unfollowed := true, recurses := true, apart := false, narrowed := true }
def CompoundNoneUptoSaid : Prop := compoundNoneUptoRow.holds Try.pinned (OpenSpec.upto compoundNoneSpec)

end Rows
end Go.Proofs.Ytdomdjfecnbenaa
