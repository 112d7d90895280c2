/- The library function number 66 of the program is the one that the shelf speaks of. -/
import Derived.Shelf.SlLaysN
import Derived.Test.YtjffdimlbppgcaaRows
import Derived.Test.YtjffdimlbppgcaaLib
set_option linter.unusedVariables false
set_option linter.unusedSimpArgs false
namespace Go.Proofs.Ytjffdimlbppgcaa
open Go.RowKit Go.Own
def bsI_ren : Go.Shelf.Ren := ⟨fun | 49 => 66 | 59 => 79 | 60 => 80 | 68 => 88 | n => n, fun | 22 => 56 | 23 => 3 | 3 => 3 | 4 => 4 | 51 => 92 | 0 => 0 | n => n, fun | n => n⟩

theorem bsI : Go.Proofs.SlLaysN.n49 Try.prog bsI_ren := {
  mixed := by kernel_rfl,
  f49 := ⟨Try.f66.name, by decide, Try.func66.trans (congrArg some (by kernel_rfl))⟩,
  f59 := ⟨Try.f79.name, by decide, Try.func79.trans (congrArg some (by kernel_rfl))⟩,
  f60 := ⟨Try.f80.name, by decide, Try.func80.trans (congrArg some (by kernel_rfl))⟩,
  f68 := ⟨Try.f88.name, by decide, Try.func88.trans (congrArg some (by kernel_rfl))⟩,
  t0 := Try.underlying0,
  a0 := Try.isAgg0,
  z0 := Try.sizeOf0,
  v0 := Try.zeroValue0,
  t3 := Try.underlying3,
  a3 := Try.isAgg3,
  z3 := Try.sizeOf3,
  v3 := Try.zeroValue3,
  t4 := Try.underlying4,
  a4 := Try.isAgg4,
  z4 := Try.sizeOf4,
  v4 := Try.zeroValue4,
  t22 := Try.underlying56,
  a22 := Try.isAgg56,
  z22 := Try.sizeOf56,
  v22 := Try.zeroValue56,
  t23 := Try.underlying3,
  a23 := Try.isAgg3,
  z23 := Try.sizeOf3,
  v23 := Try.zeroValue3,
  t51 := Try.underlying92,
  a51 := Try.isAgg92,
  z51 := Try.sizeOf92,
  v51 := Try.zeroValue92
}

end Go.Proofs.Ytjffdimlbppgcaa
