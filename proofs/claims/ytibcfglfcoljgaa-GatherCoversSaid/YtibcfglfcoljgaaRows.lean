/-
  No cell of these rows narrows 'for every input' (looked for: loops, veiled, ifaces, maps, wideKeys, modest, calm, conditions, laid).
  DERIVED. THE GIVEN ROWS OF THIS SEAT. 5 by the template 'for every input the law returns true; each argument reads behind the call as it read before'; 0 by the template 'total and deterministic' (their statements: YtibcfglfcoljgaaTotals.lean).
  GIVEN WITH THE SEED: the statements are not yours to turn. If you find one false, say at which input.
  Laid BY PROGRAM, IN A SANDBOX (cutbox-rows.mjs): the forced cells as the released guide's own fill.sh prints them over the translation 0f464c3a603a0a3b… (all of the seat's roots in one cut). By AI agents, Wed Nov 11 2026. No macro, syntax, notation, axiom, sorry.
-/
import Derived.Test.YtibcfglfcoljgaaChecked
import GoSem.Claim
import GoSem.ClaimJoined
import GoSem.ClaimMapViews
import Derived.JoinedTies
import Derived.KernelRfl
namespace Go.Proofs.Ytibcfglfcoljgaa
/- THE CELL 'sum', in the pinned program and in every row, IS THE sha256 OF THE DUMP (.gsa) THAT YtibcfglfcoljgaaProg.lean LOADS. Nothing in Lean hashes anything: it is a label: what it is worth is what the hold of that sum in a sandbox is worth. -/
noncomputable def Try.pinned : Pinned := { name := "ytibcfglfcoljgaa", sum := "0f464c3a603a0a3bb29ce0d8854d3c76b8689580b9ca57715b78444726b08b2c", checked := Try.checked }
namespace Rows
def none {H : Type} : Left H := { results := [], args := [] }

/-- 'pantilelaw21.GatherDoes': WHATEVER THE INPUT: true; the input reads as it did. -/
def gatherDoesSpec : ChangeSpec := { name := "gatherDoes", fn := fun _ => fun
  | [d1, d2] => { results := [.lit (.bool true)], args := [d1, d2] }
  | _ => none }
def gatherDoesRow : OpenClaim := { program := "ytibcfglfcoljgaa", sum := "0f464c3a603a0a3bb29ce0d8854d3c76b8689580b9ca57715b78444726b08b2c", func := "pantile/pantilelaw21.GatherDoes", spec := "gatherDoes", unfollowed := true, recurses := true, apart := false }
def GatherDoesSaid : Prop := gatherDoesRow.holds Try.pinned (OpenSpec.ofChange gatherDoesSpec)

/-- ITS FALSE NEIGHBOUR: 'it returns false'. Refute it at one input. -/
def gatherDoesWrong : ChangeSpec := { name := "gatherDoes", fn := fun _ => fun
  | [d1, d2] => { results := [.lit (.bool false)], args := [d1, d2] }
  | _ => none }
def GatherDoesWrongFalsely : Prop := gatherDoesRow.holds Try.pinned (OpenSpec.ofChange gatherDoesWrong)

/-- 'pantilelaw21.GatherCovers': WHATEVER THE INPUT: true; the input reads as it did. -/
def gatherCoversSpec : ChangeSpec := { name := "gatherCovers", fn := fun _ => fun
  | [d] => { results := [.lit (.bool true)], args := [d] }
  | _ => none }
def gatherCoversRow : OpenClaim := { program := "ytibcfglfcoljgaa", sum := "0f464c3a603a0a3bb29ce0d8854d3c76b8689580b9ca57715b78444726b08b2c", func := "pantile/pantilelaw21.GatherCovers", spec := "gatherCovers", unfollowed := true, recurses := true, apart := false }
def GatherCoversSaid : Prop := gatherCoversRow.holds Try.pinned (OpenSpec.ofChange gatherCoversSpec)

/-- ITS FALSE NEIGHBOUR: 'it returns false'. Refute it at one input. -/
def gatherCoversWrong : ChangeSpec := { name := "gatherCovers", fn := fun _ => fun
  | [d] => { results := [.lit (.bool false)], args := [d] }
  | _ => none }
def GatherCoversWrongFalsely : Prop := gatherCoversRow.holds Try.pinned (OpenSpec.ofChange gatherCoversWrong)

/-- 'pantilelaw21.GatherFrames': WHATEVER THE INPUT: true; the input reads as it did. -/
def gatherFramesSpec : ChangeSpec := { name := "gatherFrames", fn := fun _ => fun
  | [d] => { results := [.lit (.bool true)], args := [d] }
  | _ => none }
def gatherFramesRow : OpenClaim := { program := "ytibcfglfcoljgaa", sum := "0f464c3a603a0a3bb29ce0d8854d3c76b8689580b9ca57715b78444726b08b2c", func := "pantile/pantilelaw21.GatherFrames", spec := "gatherFrames", unfollowed := true, recurses := true, apart := false }
def GatherFramesSaid : Prop := gatherFramesRow.holds Try.pinned (OpenSpec.ofChange gatherFramesSpec)

/-- ITS FALSE NEIGHBOUR: 'it returns false'. Refute it at one input. -/
def gatherFramesWrong : ChangeSpec := { name := "gatherFrames", fn := fun _ => fun
  | [d] => { results := [.lit (.bool false)], args := [d] }
  | _ => none }
def GatherFramesWrongFalsely : Prop := gatherFramesRow.holds Try.pinned (OpenSpec.ofChange gatherFramesWrong)

/-- 'pantilelaw21.GatherOrders': WHATEVER THE INPUT: true; the input reads as it did. -/
def gatherOrdersSpec : ChangeSpec := { name := "gatherOrders", fn := fun _ => fun
  | [d1, d2] => { results := [.lit (.bool true)], args := [d1, d2] }
  | _ => none }
def gatherOrdersRow : OpenClaim := { program := "ytibcfglfcoljgaa", sum := "0f464c3a603a0a3bb29ce0d8854d3c76b8689580b9ca57715b78444726b08b2c", func := "pantile/pantilelaw21.GatherOrders", spec := "gatherOrders", unfollowed := true, recurses := true, apart := false }
def GatherOrdersSaid : Prop := gatherOrdersRow.holds Try.pinned (OpenSpec.ofChange gatherOrdersSpec)

/-- ITS FALSE NEIGHBOUR: 'it returns false'. Refute it at one input. -/
def gatherOrdersWrong : ChangeSpec := { name := "gatherOrders", fn := fun _ => fun
  | [d1, d2] => { results := [.lit (.bool false)], args := [d1, d2] }
  | _ => none }
def GatherOrdersWrongFalsely : Prop := gatherOrdersRow.holds Try.pinned (OpenSpec.ofChange gatherOrdersWrong)

/-- 'pantilelaw21.GatherNone': WHATEVER THE INPUT: true; the input reads as it did. -/
def gatherNoneSpec : ChangeSpec := { name := "gatherNone", fn := fun _ => fun
  | [d] => { results := [.lit (.bool true)], args := [d] }
  | _ => none }
def gatherNoneRow : OpenClaim := { program := "ytibcfglfcoljgaa", sum := "0f464c3a603a0a3bb29ce0d8854d3c76b8689580b9ca57715b78444726b08b2c", func := "pantile/pantilelaw21.GatherNone", spec := "gatherNone", unfollowed := true, recurses := true, apart := false }
def GatherNoneSaid : Prop := gatherNoneRow.holds Try.pinned (OpenSpec.ofChange gatherNoneSpec)

/-- ITS FALSE NEIGHBOUR: 'it returns false'. Refute it at one input. -/
def gatherNoneWrong : ChangeSpec := { name := "gatherNone", fn := fun _ => fun
  | [d] => { results := [.lit (.bool false)], args := [d] }
  | _ => none }
def GatherNoneWrongFalsely : Prop := gatherNoneRow.holds Try.pinned (OpenSpec.ofChange gatherNoneWrong)

/- THE SECOND FORM. 'bulk': how many values and letters a reading holds, each counted each time it is reached (what is shared counts as often as it is met; a slice's spare places count too). A statement '..UptoSaid' is the law's where the arguments, and the package variables that the reading takes, are together of bulk at most 1048576: NARROWER than '..Said'. Prove '..Said' where nothing that the law and all that it calls make is longer than what came in: it says more and counts as full. Else prove '..UptoSaid'. A law counts once. -/
mutual
def uptoBulk {H : Type} : DataW H → Nat
  | .lit (.string bytes) => bytes.length + 1
  | .lit _ => 1
  | .nil => 1
  | .ptr d => uptoBulk d + 1
  | .slice elems spare => uptoBulkAll elems + uptoBulkAll spare + 1
  | .agg parts => uptoBulkAll parts + 1
  | .iface _ d => uptoBulk d + 1
  | .map entries => uptoBulkEntries entries + 1
  | .held _ => 1
def uptoBulkAll {H : Type} : List (DataW H) → Nat
  | [] => 0
  | d :: r => uptoBulk d + uptoBulkAll r
def uptoBulkEntries {H : Type} : List (Lit × DataW H) → Nat
  | [] => 0
  | x :: r => uptoBulkEntry x + uptoBulkEntries r
def uptoBulkEntry {H : Type} : Lit × DataW H → Nat
  | (.string bytes, d) => bytes.length + uptoBulk d + 1
  | (_, d) => uptoBulk d + 1
 end
def uptoSmall : (H : Type) → List (DataW H) → Bool := fun _ ds => decide (uptoBulkAll ds ≤ 1048576)
def OpenSpec.upto (s : _root_.Go.ChangeSpec) : _root_.Go.OpenSpec := { _root_.Go.OpenSpec.ofChange s with cond := some uptoSmall }

/-- 'pantilelaw21.GatherDoes', WHERE WHAT IT READS IS OF BULK AT MOST 1048576: true; the input reads as it did. -/
def gatherDoesUptoRow : OpenClaim := { program := "ytibcfglfcoljgaa", sum := "0f464c3a603a0a3bb29ce0d8854d3c76b8689580b9ca57715b78444726b08b2c", func := "pantile/pantilelaw21.GatherDoes", spec := "gatherDoes", unfollowed := true, recurses := true, apart := false, narrowed := true }
def GatherDoesUptoSaid : Prop := gatherDoesUptoRow.holds Try.pinned (OpenSpec.upto gatherDoesSpec)

/-- 'pantilelaw21.GatherCovers', WHERE WHAT IT READS IS OF BULK AT MOST 1048576: true; the input reads as it did. -/
def gatherCoversUptoRow : OpenClaim := { program := "ytibcfglfcoljgaa", sum := "0f464c3a603a0a3bb29ce0d8854d3c76b8689580b9ca57715b78444726b08b2c", func := "pantile/pantilelaw21.GatherCovers", spec := "gatherCovers", unfollowed := true, recurses := true, apart := false, narrowed := true }
def GatherCoversUptoSaid : Prop := gatherCoversUptoRow.holds Try.pinned (OpenSpec.upto gatherCoversSpec)

/-- 'pantilelaw21.GatherFrames', WHERE WHAT IT READS IS OF BULK AT MOST 1048576: true; the input reads as it did. -/
def gatherFramesUptoRow : OpenClaim := { program := "ytibcfglfcoljgaa", sum := "0f464c3a603a0a3bb29ce0d8854d3c76b8689580b9ca57715b78444726b08b2c", func := "pantile/pantilelaw21.GatherFrames", spec := "gatherFrames", unfollowed := true, recurses := true, apart := false, narrowed := true }
def GatherFramesUptoSaid : Prop := gatherFramesUptoRow.holds Try.pinned (OpenSpec.upto gatherFramesSpec)

/-- 'pantilelaw21.GatherOrders', WHERE WHAT IT READS IS OF BULK AT MOST 1048576: true; the input reads as it did. -/
def gatherOrdersUptoRow : OpenClaim := { program := "ytibcfglfcoljgaa", sum := "0f464c3a603a0a3bb29ce0d8854d3c76b8689580b9ca57715b78444726b08b2c", func := "pantile/pantilelaw21.GatherOrders", spec := "gatherOrders", unfollowed := true, recurses := true, apart := false, narrowed := true }
def GatherOrdersUptoSaid : Prop := gatherOrdersUptoRow.holds Try.pinned (OpenSpec.upto gatherOrdersSpec)

/-- 'pantilelaw21.GatherNone', WHERE WHAT IT READS IS OF BULK AT MOST 1048576: true; the input reads as it did. -/
def gatherNoneUptoRow : OpenClaim := { program := "ytibcfglfcoljgaa", sum := "0f464c3a603a0a3bb29ce0d8854d3c76b8689580b9ca57715b78444726b08b2c", func := "pantile/pantilelaw21.GatherNone", spec := "gatherNone", unfollowed := true, recurses := true, apart := false, narrowed := true }
def GatherNoneUptoSaid : Prop := gatherNoneUptoRow.holds Try.pinned (OpenSpec.upto gatherNoneSpec)

end Rows
end Go.Proofs.Ytibcfglfcoljgaa
