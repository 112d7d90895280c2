/-
  No cell of these rows narrows 'for every input' (looked for: loops, veiled, ifaces, maps, wideKeys, modest, calm, conditions, laid).
  DERIVED. THE GIVEN ROWS OF THIS SEAT. 5 by the template 'for every input the law returns true; each argument reads behind the call as it read before'; 0 by the template 'total and deterministic' (their statements: YtmbgebmhdofdaaaTotals.lean).
  GIVEN WITH THE SEED: the statements are not yours to turn. If you find one false, say at which input.
  Laid BY PROGRAM, IN A SANDBOX (cutbox-rows.mjs): the forced cells as the released guide's own fill.sh prints them over the translation aea87820a3f94176… (all of the seat's roots in one cut). By AI agents, Wed Nov 11 2026. No macro, syntax, notation, axiom, sorry.
-/
import Derived.Test.YtmbgebmhdofdaaaChecked
import GoSem.Claim
import GoSem.ClaimJoined
import GoSem.ClaimMapViews
import Derived.JoinedTies
import Derived.KernelRfl
namespace Go.Proofs.Ytmbgebmhdofdaaa
/- THE CELL 'sum', in the pinned program and in every row, IS THE sha256 OF THE DUMP (.gsa) THAT YtmbgebmhdofdaaaProg.lean LOADS. Nothing in Lean hashes anything: it is a label: what it is worth is what the hold of that sum in a sandbox is worth. -/
noncomputable def Try.pinned : Pinned := { name := "ytmbgebmhdofdaaa", sum := "aea87820a3f941767353d013a70bbc4a2787871eb4990756a0d1189bf2478246", checked := Try.checked }
namespace Rows
def none {H : Type} : Left H := { results := [], args := [] }

/-- 'pantilelaw14.ResvOne': WHATEVER THE INPUT: true; the input reads as it did. -/
def resvOneSpec : ChangeSpec := { name := "resvOne", fn := fun _ => fun
  | [d] => { results := [.lit (.bool true)], args := [d] }
  | _ => none }
def resvOneRow : OpenClaim := { program := "ytmbgebmhdofdaaa", sum := "aea87820a3f941767353d013a70bbc4a2787871eb4990756a0d1189bf2478246", func := "pantile/pantilelaw14.ResvOne", spec := "resvOne", unfollowed := true, recurses := true, apart := false }
def ResvOneSaid : Prop := resvOneRow.holds Try.pinned (OpenSpec.ofChange resvOneSpec)

/-- ITS FALSE NEIGHBOUR: 'it returns false'. Refute it at one input. -/
def resvOneWrong : ChangeSpec := { name := "resvOne", fn := fun _ => fun
  | [d] => { results := [.lit (.bool false)], args := [d] }
  | _ => none }
def ResvOneWrongFalsely : Prop := resvOneRow.holds Try.pinned (OpenSpec.ofChange resvOneWrong)

/-- 'pantilelaw14.ResvFills': WHATEVER THE INPUT: true; the input reads as it did. -/
def resvFillsSpec : ChangeSpec := { name := "resvFills", fn := fun _ => fun
  | [d1, d2, d3] => { results := [.lit (.bool true)], args := [d1, d2, d3] }
  | _ => none }
def resvFillsRow : OpenClaim := { program := "ytmbgebmhdofdaaa", sum := "aea87820a3f941767353d013a70bbc4a2787871eb4990756a0d1189bf2478246", func := "pantile/pantilelaw14.ResvFills", spec := "resvFills", unfollowed := true, recurses := true, apart := false }
def ResvFillsSaid : Prop := resvFillsRow.holds Try.pinned (OpenSpec.ofChange resvFillsSpec)

/-- ITS FALSE NEIGHBOUR: 'it returns false'. Refute it at one input. -/
def resvFillsWrong : ChangeSpec := { name := "resvFills", fn := fun _ => fun
  | [d1, d2, d3] => { results := [.lit (.bool false)], args := [d1, d2, d3] }
  | _ => none }
def ResvFillsWrongFalsely : Prop := resvFillsRow.holds Try.pinned (OpenSpec.ofChange resvFillsWrong)

/-- 'pantilelaw14.ResvOldest': WHATEVER THE INPUT: true; the input reads as it did. -/
def resvOldestSpec : ChangeSpec := { name := "resvOldest", fn := fun _ => fun
  | [d] => { results := [.lit (.bool true)], args := [d] }
  | _ => none }
def resvOldestRow : OpenClaim := { program := "ytmbgebmhdofdaaa", sum := "aea87820a3f941767353d013a70bbc4a2787871eb4990756a0d1189bf2478246", func := "pantile/pantilelaw14.ResvOldest", spec := "resvOldest", unfollowed := true, recurses := true, apart := false }
def ResvOldestSaid : Prop := resvOldestRow.holds Try.pinned (OpenSpec.ofChange resvOldestSpec)

/-- ITS FALSE NEIGHBOUR: 'it returns false'. Refute it at one input. -/
def resvOldestWrong : ChangeSpec := { name := "resvOldest", fn := fun _ => fun
  | [d] => { results := [.lit (.bool false)], args := [d] }
  | _ => none }
def ResvOldestWrongFalsely : Prop := resvOldestRow.holds Try.pinned (OpenSpec.ofChange resvOldestWrong)

/-- 'pantilelaw14.ResvAnew': WHATEVER THE INPUT: true; the input reads as it did. -/
def resvAnewSpec : ChangeSpec := { name := "resvAnew", fn := fun _ => fun
  | [d1, d2, d3] => { results := [.lit (.bool true)], args := [d1, d2, d3] }
  | _ => none }
def resvAnewRow : OpenClaim := { program := "ytmbgebmhdofdaaa", sum := "aea87820a3f941767353d013a70bbc4a2787871eb4990756a0d1189bf2478246", func := "pantile/pantilelaw14.ResvAnew", spec := "resvAnew", unfollowed := true, recurses := true, apart := false }
def ResvAnewSaid : Prop := resvAnewRow.holds Try.pinned (OpenSpec.ofChange resvAnewSpec)

/-- ITS FALSE NEIGHBOUR: 'it returns false'. Refute it at one input. -/
def resvAnewWrong : ChangeSpec := { name := "resvAnew", fn := fun _ => fun
  | [d1, d2, d3] => { results := [.lit (.bool false)], args := [d1, d2, d3] }
  | _ => none }
def ResvAnewWrongFalsely : Prop := resvAnewRow.holds Try.pinned (OpenSpec.ofChange resvAnewWrong)

/-- 'pantilelaw14.ResvNone': WHATEVER THE INPUT: true; the input reads as it did. -/
def resvNoneSpec : ChangeSpec := { name := "resvNone", fn := fun _ => fun
  | [d] => { results := [.lit (.bool true)], args := [d] }
  | _ => none }
def resvNoneRow : OpenClaim := { program := "ytmbgebmhdofdaaa", sum := "aea87820a3f941767353d013a70bbc4a2787871eb4990756a0d1189bf2478246", func := "pantile/pantilelaw14.ResvNone", spec := "resvNone", unfollowed := true, recurses := true, apart := false }
def ResvNoneSaid : Prop := resvNoneRow.holds Try.pinned (OpenSpec.ofChange resvNoneSpec)

/-- ITS FALSE NEIGHBOUR: 'it returns false'. Refute it at one input. -/
def resvNoneWrong : ChangeSpec := { name := "resvNone", fn := fun _ => fun
  | [d] => { results := [.lit (.bool false)], args := [d] }
  | _ => none }
def ResvNoneWrongFalsely : Prop := resvNoneRow.holds Try.pinned (OpenSpec.ofChange resvNoneWrong)

/- THE SECOND FORM. 'bulk': how many values and letters a reading holds, each counted each time it is reached (what is shared counts as often as it is met; a slice's spare places count too). A statement '..UptoSaid' is the law's where the arguments, and the package variables that the reading takes, are together of bulk at most 1048576: NARROWER than '..Said'. Prove '..Said' where nothing that the law and all that it calls make is longer than what came in: it says more and counts as full. Else prove '..UptoSaid'. A law counts once. -/
mutual
def uptoBulk {H : Type} : DataW H → Nat
  | .lit (.string bytes) => bytes.length + 1
  | .lit _ => 1
  | .nil => 1
  | .ptr d => uptoBulk d + 1
  | .slice elems spare => uptoBulkAll elems + uptoBulkAll spare + 1
  | .agg parts => uptoBulkAll parts + 1
  | .iface _ d => uptoBulk d + 1
  | .map entries => uptoBulkEntries entries + 1
  | .held _ => 1
def uptoBulkAll {H : Type} : List (DataW H) → Nat
  | [] => 0
  | d :: r => uptoBulk d + uptoBulkAll r
def uptoBulkEntries {H : Type} : List (Lit × DataW H) → Nat
  | [] => 0
  | x :: r => uptoBulkEntry x + uptoBulkEntries r
def uptoBulkEntry {H : Type} : Lit × DataW H → Nat
  | (.string bytes, d) => bytes.length + uptoBulk d + 1
  | (_, d) => uptoBulk d + 1
 end
def uptoSmall : (H : Type) → List (DataW H) → Bool := fun _ ds => decide (uptoBulkAll ds ≤ 1048576)
def OpenSpec.upto (s : _root_.Go.ChangeSpec) : _root_.Go.OpenSpec := { _root_.Go.OpenSpec.ofChange s with cond := some uptoSmall }

/-- 'pantilelaw14.ResvOne', WHERE WHAT IT READS IS OF BULK AT MOST 1048576: true; the input reads as it did. -/
def resvOneUptoRow : OpenClaim := { program := "ytmbgebmhdofdaaa", sum := "aea87820a3f941767353d013a70bbc4a2787871eb4990756a0d1189bf2478246", func := "pantile/pantilelaw14.ResvOne", spec := "resvOne", unfollowed := true, recurses := true, apart := false, narrowed := true }
def ResvOneUptoSaid : Prop := resvOneUptoRow.holds Try.pinned (OpenSpec.upto resvOneSpec)

/-- 'pantilelaw14.ResvFills', WHERE WHAT IT READS IS OF BULK AT MOST 1048576: true; the input reads as it did. -/
def resvFillsUptoRow : OpenClaim := { program := "ytmbgebmhdofdaaa", sum := "aea87820a3f941767353d013a70bbc4a2787871eb4990756a0d1189bf2478246", func := "pantile/pantilelaw14.ResvFills", spec := "resvFills", unfollowed := true, recurses := true, apart := false, narrowed := true }
def ResvFillsUptoSaid : Prop := resvFillsUptoRow.holds Try.pinned (OpenSpec.upto resvFillsSpec)

/-- 'pantilelaw14.ResvOldest', WHERE WHAT IT READS IS OF BULK AT MOST 1048576: true; the input reads as it did. -/
def resvOldestUptoRow : OpenClaim := { program := "ytmbgebmhdofdaaa", sum := "aea87820a3f941767353d013a70bbc4a2787871eb4990756a0d1189bf2478246", func := "pantile/pantilelaw14.ResvOldest", spec := "resvOldest", unfollowed := true, recurses := true, apart := false, narrowed := true }
def ResvOldestUptoSaid : Prop := resvOldestUptoRow.holds Try.pinned (OpenSpec.upto resvOldestSpec)

/-- 'pantilelaw14.ResvAnew', WHERE WHAT IT READS IS OF BULK AT MOST 1048576: true; the input reads as it did. -/
def resvAnewUptoRow : OpenClaim := { program := "ytmbgebmhdofdaaa", sum := "aea87820a3f941767353d013a70bbc4a2787871eb4990756a0d1189bf2478246", func := "pantile/pantilelaw14.ResvAnew", spec := "resvAnew", unfollowed := true, recurses := true, apart := false, narrowed := true }
def ResvAnewUptoSaid : Prop := resvAnewUptoRow.holds Try.pinned (OpenSpec.upto resvAnewSpec)

/-- 'pantilelaw14.ResvNone', WHERE WHAT IT READS IS OF BULK AT MOST 1048576: true; the input reads as it did. -/
def resvNoneUptoRow : OpenClaim := { program := "ytmbgebmhdofdaaa", sum := "aea87820a3f941767353d013a70bbc4a2787871eb4990756a0d1189bf2478246", func := "pantile/pantilelaw14.ResvNone", spec := "resvNone", unfollowed := true, recurses := true, apart := false, narrowed := true }
def ResvNoneUptoSaid : Prop := resvNoneUptoRow.holds Try.pinned (OpenSpec.upto resvNoneSpec)

end Rows
end Go.Proofs.Ytmbgebmhdofdaaa
