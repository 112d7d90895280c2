/- The library function number 105 of the program is the one that the shelf speaks of. -/
import Derived.Shelf.SlLaysN
import Derived.Test.YtjffdimlbppgcaaGreatRows
import Derived.Test.YtjffdimlbppgcaaGreatLib
set_option linter.unusedVariables false
set_option linter.unusedSimpArgs false
namespace Go.Proofs.YtjffdimlbppgcaaGreat
open Go.RowKit Go.Own
def dlI_ren : Go.Shelf.Ren := ⟨fun | 45 => 105 | n => n, fun | 22 => 48 | 23 => 3 | 3 => 3 | 4 => 4 | 0 => 0 | n => n, fun | n => n⟩

theorem dlI : Go.Proofs.SlLaysN.n45 Tryz.prog dlI_ren := {
  mixed := by kernel_rfl,
  f45 := ⟨Tryz.f105.name, by decide, Tryz.func105.trans (congrArg some (by kernel_rfl))⟩,
  t0 := Tryz.underlying0,
  a0 := Tryz.isAgg0,
  z0 := Tryz.sizeOf0,
  v0 := Tryz.zeroValue0,
  t3 := Tryz.underlying3,
  a3 := Tryz.isAgg3,
  z3 := Tryz.sizeOf3,
  v3 := Tryz.zeroValue3,
  t4 := Tryz.underlying4,
  a4 := Tryz.isAgg4,
  z4 := Tryz.sizeOf4,
  v4 := Tryz.zeroValue4,
  t22 := Tryz.underlying48,
  a22 := Tryz.isAgg48,
  z22 := Tryz.sizeOf48,
  v22 := Tryz.zeroValue48,
  t23 := Tryz.underlying3,
  a23 := Tryz.isAgg3,
  z23 := Tryz.sizeOf3,
  v23 := Tryz.zeroValue3,
  i23 := by kernel_rfl
}

end Go.Proofs.YtjffdimlbppgcaaGreat
