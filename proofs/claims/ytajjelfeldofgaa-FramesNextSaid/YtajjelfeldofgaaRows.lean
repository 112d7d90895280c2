/-
  No cell of these rows narrows 'for every input' (looked for: loops, veiled, ifaces, maps, wideKeys, modest, calm, conditions, laid).
  DERIVED. THE GIVEN ROWS OF THIS SEAT. 6 by the template 'for every input the law returns true; each argument reads behind the call as it read before'; 0 by the template 'total and deterministic' (their statements: YtajjelfeldofgaaTotals.lean).
  GIVEN WITH THE SEED: the statements are not yours to turn. If you find one false, say at which input.
  Laid BY PROGRAM, IN A SANDBOX (cutbox-rows.mjs): the forced cells as the released guide's own fill.sh prints them over the translation 28aa4278652a04b2… (all of the seat's roots in one cut). By AI agents, Wed Nov 11 2026. No macro, syntax, notation, axiom, sorry.
-/
import Derived.Test.YtajjelfeldofgaaChecked
import GoSem.Claim
import GoSem.ClaimJoined
import GoSem.ClaimMapViews
import Derived.JoinedTies
import Derived.KernelRfl
namespace Go.Proofs.Ytajjelfeldofgaa
/- THE CELL 'sum', in the pinned program and in every row, IS THE sha256 OF THE DUMP (.gsa) THAT YtajjelfeldofgaaProg.lean LOADS. Nothing in Lean hashes anything: it is a label: what it is worth is what the hold of that sum in a sandbox is worth. -/
noncomputable def Try.pinned : Pinned := { name := "ytajjelfeldofgaa", sum := "28aa4278652a04b25970200a8bc098f99d659ab826fa6a44558692a021b02ca3", checked := Try.checked }
namespace Rows
def none {H : Type} : Left H := { results := [], args := [] }

/-- 'pantilelaw16.FramesSums': WHATEVER THE INPUT: true; the input reads as it did. -/
def framesSumsSpec : ChangeSpec := { name := "framesSums", fn := fun _ => fun
  | [d1, d2] => { results := [.lit (.bool true)], args := [d1, d2] }
  | _ => none }
def framesSumsRow : OpenClaim := { program := "ytajjelfeldofgaa", sum := "28aa4278652a04b25970200a8bc098f99d659ab826fa6a44558692a021b02ca3", func := "pantile/pantilelaw16.FramesSums", spec := "framesSums", apart := false }
def FramesSumsSaid : Prop := framesSumsRow.holds Try.pinned (OpenSpec.ofChange framesSumsSpec)

/-- ITS FALSE NEIGHBOUR: 'it returns false'. Refute it at one input. -/
def framesSumsWrong : ChangeSpec := { name := "framesSums", fn := fun _ => fun
  | [d1, d2] => { results := [.lit (.bool false)], args := [d1, d2] }
  | _ => none }
def FramesSumsWrongFalsely : Prop := framesSumsRow.holds Try.pinned (OpenSpec.ofChange framesSumsWrong)

/-- 'pantilelaw16.FramesBack': WHATEVER THE INPUT: true; the input reads as it did. -/
def framesBackSpec : ChangeSpec := { name := "framesBack", fn := fun _ => fun
  | [d1, d2] => { results := [.lit (.bool true)], args := [d1, d2] }
  | _ => none }
def framesBackRow : OpenClaim := { program := "ytajjelfeldofgaa", sum := "28aa4278652a04b25970200a8bc098f99d659ab826fa6a44558692a021b02ca3", func := "pantile/pantilelaw16.FramesBack", spec := "framesBack", apart := false }
def FramesBackSaid : Prop := framesBackRow.holds Try.pinned (OpenSpec.ofChange framesBackSpec)

/-- ITS FALSE NEIGHBOUR: 'it returns false'. Refute it at one input. -/
def framesBackWrong : ChangeSpec := { name := "framesBack", fn := fun _ => fun
  | [d1, d2] => { results := [.lit (.bool false)], args := [d1, d2] }
  | _ => none }
def FramesBackWrongFalsely : Prop := framesBackRow.holds Try.pinned (OpenSpec.ofChange framesBackWrong)

/-- 'pantilelaw16.FramesNext': WHATEVER THE INPUT: true; the input reads as it did. -/
def framesNextSpec : ChangeSpec := { name := "framesNext", fn := fun _ => fun
  | [d1, d2, d3] => { results := [.lit (.bool true)], args := [d1, d2, d3] }
  | _ => none }
def framesNextRow : OpenClaim := { program := "ytajjelfeldofgaa", sum := "28aa4278652a04b25970200a8bc098f99d659ab826fa6a44558692a021b02ca3", func := "pantile/pantilelaw16.FramesNext", spec := "framesNext", apart := false }
def FramesNextSaid : Prop := framesNextRow.holds Try.pinned (OpenSpec.ofChange framesNextSpec)

/-- ITS FALSE NEIGHBOUR: 'it returns false'. Refute it at one input. -/
def framesNextWrong : ChangeSpec := { name := "framesNext", fn := fun _ => fun
  | [d1, d2, d3] => { results := [.lit (.bool false)], args := [d1, d2, d3] }
  | _ => none }
def FramesNextWrongFalsely : Prop := framesNextRow.holds Try.pinned (OpenSpec.ofChange framesNextWrong)

/-- 'pantilelaw16.FramesDoes': WHATEVER THE INPUT: true; the input reads as it did. -/
def framesDoesSpec : ChangeSpec := { name := "framesDoes", fn := fun _ => fun
  | [d] => { results := [.lit (.bool true)], args := [d] }
  | _ => none }
def framesDoesRow : OpenClaim := { program := "ytajjelfeldofgaa", sum := "28aa4278652a04b25970200a8bc098f99d659ab826fa6a44558692a021b02ca3", func := "pantile/pantilelaw16.FramesDoes", spec := "framesDoes", apart := false }
def FramesDoesSaid : Prop := framesDoesRow.holds Try.pinned (OpenSpec.ofChange framesDoesSpec)

/-- ITS FALSE NEIGHBOUR: 'it returns false'. Refute it at one input. -/
def framesDoesWrong : ChangeSpec := { name := "framesDoes", fn := fun _ => fun
  | [d] => { results := [.lit (.bool false)], args := [d] }
  | _ => none }
def FramesDoesWrongFalsely : Prop := framesDoesRow.holds Try.pinned (OpenSpec.ofChange framesDoesWrong)

/-- 'pantilelaw16.FramesAll': WHATEVER THE INPUT: true; the input reads as it did. -/
def framesAllSpec : ChangeSpec := { name := "framesAll", fn := fun _ => fun
  | [d1, d2, d3] => { results := [.lit (.bool true)], args := [d1, d2, d3] }
  | _ => none }
def framesAllRow : OpenClaim := { program := "ytajjelfeldofgaa", sum := "28aa4278652a04b25970200a8bc098f99d659ab826fa6a44558692a021b02ca3", func := "pantile/pantilelaw16.FramesAll", spec := "framesAll", apart := false }
def FramesAllSaid : Prop := framesAllRow.holds Try.pinned (OpenSpec.ofChange framesAllSpec)

/-- ITS FALSE NEIGHBOUR: 'it returns false'. Refute it at one input. -/
def framesAllWrong : ChangeSpec := { name := "framesAll", fn := fun _ => fun
  | [d1, d2, d3] => { results := [.lit (.bool false)], args := [d1, d2, d3] }
  | _ => none }
def FramesAllWrongFalsely : Prop := framesAllRow.holds Try.pinned (OpenSpec.ofChange framesAllWrong)

/-- 'pantilelaw16.FramesNone': WHATEVER THE INPUT: true; the input reads as it did. -/
def framesNoneSpec : ChangeSpec := { name := "framesNone", fn := fun _ => fun
  | [d] => { results := [.lit (.bool true)], args := [d] }
  | _ => none }
def framesNoneRow : OpenClaim := { program := "ytajjelfeldofgaa", sum := "28aa4278652a04b25970200a8bc098f99d659ab826fa6a44558692a021b02ca3", func := "pantile/pantilelaw16.FramesNone", spec := "framesNone", apart := false }
def FramesNoneSaid : Prop := framesNoneRow.holds Try.pinned (OpenSpec.ofChange framesNoneSpec)

/-- ITS FALSE NEIGHBOUR: 'it returns false'. Refute it at one input. -/
def framesNoneWrong : ChangeSpec := { name := "framesNone", fn := fun _ => fun
  | [d] => { results := [.lit (.bool false)], args := [d] }
  | _ => none }
def FramesNoneWrongFalsely : Prop := framesNoneRow.holds Try.pinned (OpenSpec.ofChange framesNoneWrong)

/- THE SECOND FORM. 'bulk': how many values and letters a reading holds, each counted each time it is reached (what is shared counts as often as it is met; a slice's spare places count too). A statement '..UptoSaid' is the law's where the arguments, and the package variables that the reading takes, are together of bulk at most 1048576: NARROWER than '..Said'. Prove '..Said' where nothing that the law and all that it calls make is longer than what came in: it says more and counts as full. Else prove '..UptoSaid'. A law counts once. -/
mutual
def uptoBulk {H : Type} : DataW H → Nat
  | .lit (.string bytes) => bytes.length + 1
  | .lit _ => 1
  | .nil => 1
  | .ptr d => uptoBulk d + 1
  | .slice elems spare => uptoBulkAll elems + uptoBulkAll spare + 1
  | .agg parts => uptoBulkAll parts + 1
  | .iface _ d => uptoBulk d + 1
  | .map entries => uptoBulkEntries entries + 1
  | .held _ => 1
def uptoBulkAll {H : Type} : List (DataW H) → Nat
  | [] => 0
  | d :: r => uptoBulk d + uptoBulkAll r
def uptoBulkEntries {H : Type} : List (Lit × DataW H) → Nat
  | [] => 0
  | x :: r => uptoBulkEntry x + uptoBulkEntries r
def uptoBulkEntry {H : Type} : Lit × DataW H → Nat
  | (.string bytes, d) => bytes.length + uptoBulk d + 1
  | (_, d) => uptoBulk d + 1
 end
def uptoSmall : (H : Type) → List (DataW H) → Bool := fun _ ds => decide (uptoBulkAll ds ≤ 1048576)
def OpenSpec.upto (s : _root_.Go.ChangeSpec) : _root_.Go.OpenSpec := { _root_.Go.OpenSpec.ofChange s with cond := some uptoSmall }

/-- 'pantilelaw16.FramesSums', WHERE WHAT IT READS IS OF BULK AT MOST 1048576: true; the input reads as it did. -/
def framesSumsUptoRow : OpenClaim := { program := "ytajjelfeldofgaa", sum := "28aa4278652a04b25970200a8bc098f99d659ab826fa6a44558692a021b02ca3", func := "pantile/pantilelaw16.FramesSums", spec := "framesSums", apart := false, narrowed := true }
def FramesSumsUptoSaid : Prop := framesSumsUptoRow.holds Try.pinned (OpenSpec.upto framesSumsSpec)

/-- 'pantilelaw16.FramesBack', WHERE WHAT IT READS IS OF BULK AT MOST 1048576: true; the input reads as it did. -/
def framesBackUptoRow : OpenClaim := { program := "ytajjelfeldofgaa", sum := "28aa4278652a04b25970200a8bc098f99d659ab826fa6a44558692a021b02ca3", func := "pantile/pantilelaw16.FramesBack", spec := "framesBack", apart := false, narrowed := true }
def FramesBackUptoSaid : Prop := framesBackUptoRow.holds Try.pinned (OpenSpec.upto framesBackSpec)

/-- 'pantilelaw16.FramesNext', WHERE WHAT IT READS IS OF BULK AT MOST 1048576: true; the input reads as it did. -/
def framesNextUptoRow : OpenClaim := { program := "ytajjelfeldofgaa", sum := "28aa4278652a04b25970200a8bc098f99d659ab826fa6a44558692a021b02ca3", func := "pantile/pantilelaw16.FramesNext", spec := "framesNext", apart := false, narrowed := true }
def FramesNextUptoSaid : Prop := framesNextUptoRow.holds Try.pinned (OpenSpec.upto framesNextSpec)

/-- 'pantilelaw16.FramesDoes', WHERE WHAT IT READS IS OF BULK AT MOST 1048576: true; the input reads as it did. -/
def framesDoesUptoRow : OpenClaim := { program := "ytajjelfeldofgaa", sum := "28aa4278652a04b25970200a8bc098f99d659ab826fa6a44558692a021b02ca3", func := "pantile/pantilelaw16.FramesDoes", spec := "framesDoes", apart := false, narrowed := true }
def FramesDoesUptoSaid : Prop := framesDoesUptoRow.holds Try.pinned (OpenSpec.upto framesDoesSpec)

/-- 'pantilelaw16.FramesAll', WHERE WHAT IT READS IS OF BULK AT MOST 1048576: true; the input reads as it did. -/
def framesAllUptoRow : OpenClaim := { program := "ytajjelfeldofgaa", sum := "28aa4278652a04b25970200a8bc098f99d659ab826fa6a44558692a021b02ca3", func := "pantile/pantilelaw16.FramesAll", spec := "framesAll", apart := false, narrowed := true }
def FramesAllUptoSaid : Prop := framesAllUptoRow.holds Try.pinned (OpenSpec.upto framesAllSpec)

/-- 'pantilelaw16.FramesNone', WHERE WHAT IT READS IS OF BULK AT MOST 1048576: true; the input reads as it did. -/
def framesNoneUptoRow : OpenClaim := { program := "ytajjelfeldofgaa", sum := "28aa4278652a04b25970200a8bc098f99d659ab826fa6a44558692a021b02ca3", func := "pantile/pantilelaw16.FramesNone", spec := "framesNone", apart := false, narrowed := true }
def FramesNoneUptoSaid : Prop := framesNoneUptoRow.holds Try.pinned (OpenSpec.upto framesNoneSpec)

end Rows
end Go.Proofs.Ytajjelfeldofgaa
