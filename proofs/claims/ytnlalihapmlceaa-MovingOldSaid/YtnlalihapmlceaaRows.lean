/-
  No cell of these rows narrows 'for every input' (looked for: loops, veiled, ifaces, maps, wideKeys, modest, calm, conditions, laid).
  DERIVED. THE GIVEN ROWS OF THIS SEAT. 6 by the template 'for every input the law returns true; each argument reads behind the call as it read before'; 0 by the template 'total and deterministic' (their statements: YtnlalihapmlceaaTotals.lean).
  GIVEN WITH THE SEED: the statements are not yours to turn. If you find one false, say at which input.
  Laid BY PROGRAM, IN A SANDBOX (cutbox-rows.mjs): the forced cells as the released guide's own fill.sh prints them over the translation f130cddb7303e652… (all of the seat's roots in one cut). By AI agents, Wed Nov 11 2026. No macro, syntax, notation, axiom, sorry.
-/
import Derived.Test.YtnlalihapmlceaaChecked
import GoSem.Claim
import GoSem.ClaimJoined
import GoSem.ClaimMapViews
import Derived.JoinedTies
import Derived.KernelRfl
namespace Go.Proofs.Ytnlalihapmlceaa
/- THE CELL 'sum', in the pinned program and in every row, IS THE sha256 OF THE DUMP (.gsa) THAT YtnlalihapmlceaaProg.lean LOADS. Nothing in Lean hashes anything: it is a label: what it is worth is what the hold of that sum in a sandbox is worth. -/
noncomputable def Try.pinned : Pinned := { name := "ytnlalihapmlceaa", sum := "f130cddb7303e65253f976740d936e1b5618e20b2da34c307af2da38ff4f5413", checked := Try.checked }
namespace Rows
def none {H : Type} : Left H := { results := [], args := [] }

/-- 'pantilelaw23.MovingApart': WHATEVER THE INPUT: true; the input reads as it did. -/
def movingApartSpec : ChangeSpec := { name := "movingApart", fn := fun _ => fun
  | [d1, d2, d3] => { results := [.lit (.bool true)], args := [d1, d2, d3] }
  | _ => none }
def movingApartRow : OpenClaim := { program := "ytnlalihapmlceaa", sum := "f130cddb7303e65253f976740d936e1b5618e20b2da34c307af2da38ff4f5413", func := "pantile/pantilelaw23.MovingApart", spec := "movingApart", unfollowed := true, recurses := true, apart := false }
def MovingApartSaid : Prop := movingApartRow.holds Try.pinned (OpenSpec.ofChange movingApartSpec)

/-- ITS FALSE NEIGHBOUR: 'it returns false'. Refute it at one input. -/
def movingApartWrong : ChangeSpec := { name := "movingApart", fn := fun _ => fun
  | [d1, d2, d3] => { results := [.lit (.bool false)], args := [d1, d2, d3] }
  | _ => none }
def MovingApartWrongFalsely : Prop := movingApartRow.holds Try.pinned (OpenSpec.ofChange movingApartWrong)

/-- 'pantilelaw23.MovingOne': WHATEVER THE INPUT: true; the input reads as it did. -/
def movingOneSpec : ChangeSpec := { name := "movingOne", fn := fun _ => fun
  | [d] => { results := [.lit (.bool true)], args := [d] }
  | _ => none }
def movingOneRow : OpenClaim := { program := "ytnlalihapmlceaa", sum := "f130cddb7303e65253f976740d936e1b5618e20b2da34c307af2da38ff4f5413", func := "pantile/pantilelaw23.MovingOne", spec := "movingOne", unfollowed := true, recurses := true, apart := false }
def MovingOneSaid : Prop := movingOneRow.holds Try.pinned (OpenSpec.ofChange movingOneSpec)

/-- ITS FALSE NEIGHBOUR: 'it returns false'. Refute it at one input. -/
def movingOneWrong : ChangeSpec := { name := "movingOne", fn := fun _ => fun
  | [d] => { results := [.lit (.bool false)], args := [d] }
  | _ => none }
def MovingOneWrongFalsely : Prop := movingOneRow.holds Try.pinned (OpenSpec.ofChange movingOneWrong)

/-- 'pantilelaw23.MovingOrder': WHATEVER THE INPUT: true; the input reads as it did. -/
def movingOrderSpec : ChangeSpec := { name := "movingOrder", fn := fun _ => fun
  | [d] => { results := [.lit (.bool true)], args := [d] }
  | _ => none }
def movingOrderRow : OpenClaim := { program := "ytnlalihapmlceaa", sum := "f130cddb7303e65253f976740d936e1b5618e20b2da34c307af2da38ff4f5413", func := "pantile/pantilelaw23.MovingOrder", spec := "movingOrder", unfollowed := true, recurses := true, apart := false }
def MovingOrderSaid : Prop := movingOrderRow.holds Try.pinned (OpenSpec.ofChange movingOrderSpec)

/-- ITS FALSE NEIGHBOUR: 'it returns false'. Refute it at one input. -/
def movingOrderWrong : ChangeSpec := { name := "movingOrder", fn := fun _ => fun
  | [d] => { results := [.lit (.bool false)], args := [d] }
  | _ => none }
def MovingOrderWrongFalsely : Prop := movingOrderRow.holds Try.pinned (OpenSpec.ofChange movingOrderWrong)

/-- 'pantilelaw23.MovingDoes': WHATEVER THE INPUT: true; the input reads as it did. -/
def movingDoesSpec : ChangeSpec := { name := "movingDoes", fn := fun _ => fun
  | [d] => { results := [.lit (.bool true)], args := [d] }
  | _ => none }
def movingDoesRow : OpenClaim := { program := "ytnlalihapmlceaa", sum := "f130cddb7303e65253f976740d936e1b5618e20b2da34c307af2da38ff4f5413", func := "pantile/pantilelaw23.MovingDoes", spec := "movingDoes", unfollowed := true, recurses := true, apart := false }
def MovingDoesSaid : Prop := movingDoesRow.holds Try.pinned (OpenSpec.ofChange movingDoesSpec)

/-- ITS FALSE NEIGHBOUR: 'it returns false'. Refute it at one input. -/
def movingDoesWrong : ChangeSpec := { name := "movingDoes", fn := fun _ => fun
  | [d] => { results := [.lit (.bool false)], args := [d] }
  | _ => none }
def MovingDoesWrongFalsely : Prop := movingDoesRow.holds Try.pinned (OpenSpec.ofChange movingDoesWrong)

/-- 'pantilelaw23.MovingOld': WHATEVER THE INPUT: true; the input reads as it did. -/
def movingOldSpec : ChangeSpec := { name := "movingOld", fn := fun _ => fun
  | [d1, d2] => { results := [.lit (.bool true)], args := [d1, d2] }
  | _ => none }
def movingOldRow : OpenClaim := { program := "ytnlalihapmlceaa", sum := "f130cddb7303e65253f976740d936e1b5618e20b2da34c307af2da38ff4f5413", func := "pantile/pantilelaw23.MovingOld", spec := "movingOld", unfollowed := true, recurses := true, apart := false }
def MovingOldSaid : Prop := movingOldRow.holds Try.pinned (OpenSpec.ofChange movingOldSpec)

/-- ITS FALSE NEIGHBOUR: 'it returns false'. Refute it at one input. -/
def movingOldWrong : ChangeSpec := { name := "movingOld", fn := fun _ => fun
  | [d1, d2] => { results := [.lit (.bool false)], args := [d1, d2] }
  | _ => none }
def MovingOldWrongFalsely : Prop := movingOldRow.holds Try.pinned (OpenSpec.ofChange movingOldWrong)

/-- 'pantilelaw23.MovingNone': WHATEVER THE INPUT: true; the input reads as it did. -/
def movingNoneSpec : ChangeSpec := { name := "movingNone", fn := fun _ => fun
  | [d] => { results := [.lit (.bool true)], args := [d] }
  | _ => none }
def movingNoneRow : OpenClaim := { program := "ytnlalihapmlceaa", sum := "f130cddb7303e65253f976740d936e1b5618e20b2da34c307af2da38ff4f5413", func := "pantile/pantilelaw23.MovingNone", spec := "movingNone", unfollowed := true, recurses := true, apart := false }
def MovingNoneSaid : Prop := movingNoneRow.holds Try.pinned (OpenSpec.ofChange movingNoneSpec)

/-- ITS FALSE NEIGHBOUR: 'it returns false'. Refute it at one input. -/
def movingNoneWrong : ChangeSpec := { name := "movingNone", fn := fun _ => fun
  | [d] => { results := [.lit (.bool false)], args := [d] }
  | _ => none }
def MovingNoneWrongFalsely : Prop := movingNoneRow.holds Try.pinned (OpenSpec.ofChange movingNoneWrong)

/- THE SECOND FORM. 'bulk': how many values and letters a reading holds, each counted each time it is reached (what is shared counts as often as it is met; a slice's spare places count too). A statement '..UptoSaid' is the law's where the arguments, and the package variables that the reading takes, are together of bulk at most 1048576: NARROWER than '..Said'. Prove '..Said' where nothing that the law and all that it calls make is longer than what came in: it says more and counts as full. Else prove '..UptoSaid'. A law counts once. -/
mutual
def uptoBulk {H : Type} : DataW H → Nat
  | .lit (.string bytes) => bytes.length + 1
  | .lit _ => 1
  | .nil => 1
  | .ptr d => uptoBulk d + 1
  | .slice elems spare => uptoBulkAll elems + uptoBulkAll spare + 1
  | .agg parts => uptoBulkAll parts + 1
  | .iface _ d => uptoBulk d + 1
  | .map entries => uptoBulkEntries entries + 1
  | .held _ => 1
def uptoBulkAll {H : Type} : List (DataW H) → Nat
  | [] => 0
  | d :: r => uptoBulk d + uptoBulkAll r
def uptoBulkEntries {H : Type} : List (Lit × DataW H) → Nat
  | [] => 0
  | x :: r => uptoBulkEntry x + uptoBulkEntries r
def uptoBulkEntry {H : Type} : Lit × DataW H → Nat
  | (.string bytes, d) => bytes.length + uptoBulk d + 1
  | (_, d) => uptoBulk d + 1
 end
def uptoSmall : (H : Type) → List (DataW H) → Bool := fun _ ds => decide (uptoBulkAll ds ≤ 1048576)
def OpenSpec.upto (s : _root_.Go.ChangeSpec) : _root_.Go.OpenSpec := { _root_.Go.OpenSpec.ofChange s with cond := some uptoSmall }

/-- 'pantilelaw23.MovingApart', WHERE WHAT IT READS IS OF BULK AT MOST 1048576: true; the input reads as it did. -/
def movingApartUptoRow : OpenClaim := { program := "ytnlalihapmlceaa", sum := "f130cddb7303e65253f976740d936e1b5618e20b2da34c307af2da38ff4f5413", func := "pantile/pantilelaw23.MovingApart", spec := "movingApart", unfollowed := true, recurses := true, apart := false, narrowed := true }
def MovingApartUptoSaid : Prop := movingApartUptoRow.holds Try.pinned (OpenSpec.upto movingApartSpec)

/-- 'pantilelaw23.MovingOne', WHERE WHAT IT READS IS OF BULK AT MOST 1048576: true; the input reads as it did. -/
def movingOneUptoRow : OpenClaim := { program := "ytnlalihapmlceaa", sum := "f130cddb7303e65253f976740d936e1b5618e20b2da34c307af2da38ff4f5413", func := "pantile/pantilelaw23.MovingOne", spec := "movingOne", unfollowed := true, recurses := true, apart := false, narrowed := true }
def MovingOneUptoSaid : Prop := movingOneUptoRow.holds Try.pinned (OpenSpec.upto movingOneSpec)

/-- 'pantilelaw23.MovingOrder', WHERE WHAT IT READS IS OF BULK AT MOST 1048576: true; the input reads as it did. -/
def movingOrderUptoRow : OpenClaim := { program := "ytnlalihapmlceaa", sum := "f130cddb7303e65253f976740d936e1b5618e20b2da34c307af2da38ff4f5413", func := "pantile/pantilelaw23.MovingOrder", spec := "movingOrder", unfollowed := true, recurses := true, apart := false, narrowed := true }
def MovingOrderUptoSaid : Prop := movingOrderUptoRow.holds Try.pinned (OpenSpec.upto movingOrderSpec)

/-- 'pantilelaw23.MovingDoes', WHERE WHAT IT READS IS OF BULK AT MOST 1048576: true; the input reads as it did. -/
def movingDoesUptoRow : OpenClaim := { program := "ytnlalihapmlceaa", sum := "f130cddb7303e65253f976740d936e1b5618e20b2da34c307af2da38ff4f5413", func := "pantile/pantilelaw23.MovingDoes", spec := "movingDoes", unfollowed := true, recurses := true, apart := false, narrowed := true }
def MovingDoesUptoSaid : Prop := movingDoesUptoRow.holds Try.pinned (OpenSpec.upto movingDoesSpec)

/-- 'pantilelaw23.MovingOld', WHERE WHAT IT READS IS OF BULK AT MOST 1048576: true; the input reads as it did. -/
def movingOldUptoRow : OpenClaim := { program := "ytnlalihapmlceaa", sum := "f130cddb7303e65253f976740d936e1b5618e20b2da34c307af2da38ff4f5413", func := "pantile/pantilelaw23.MovingOld", spec := "movingOld", unfollowed := true, recurses := true, apart := false, narrowed := true }
def MovingOldUptoSaid : Prop := movingOldUptoRow.holds Try.pinned (OpenSpec.upto movingOldSpec)

/-- 'pantilelaw23.MovingNone', WHERE WHAT IT READS IS OF BULK AT MOST 1048576: true; the input reads as it did. -/
def movingNoneUptoRow : OpenClaim := { program := "ytnlalihapmlceaa", sum := "f130cddb7303e65253f976740d936e1b5618e20b2da34c307af2da38ff4f5413", func := "pantile/pantilelaw23.MovingNone", spec := "movingNone", unfollowed := true, recurses := true, apart := false, narrowed := true }
def MovingNoneUptoSaid : Prop := movingNoneUptoRow.holds Try.pinned (OpenSpec.upto movingNoneSpec)

end Rows
end Go.Proofs.Ytnlalihapmlceaa
