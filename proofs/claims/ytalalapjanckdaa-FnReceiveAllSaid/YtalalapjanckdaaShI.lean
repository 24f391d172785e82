/- slices.BinarySearch and slices.Insert at []int: the shelf's contracts at this program. -/
import Derived.Shelf.Slices.SearchI
import Derived.Shelf.Slices.Empties
import Derived.Shelf.Spec.SlicesInsertGrow
import Derived.Test.YtalalapjanckdaaProg
namespace Go.Proofs
open Go.Shelf
def Try.lays2_25_ren : Go.Shelf.Ren := ⟨fun | 25 => 66 | 31 => 74 | 32 => 75 | 37 => 78 | n => n, fun | 0 => 0 | 3 => 3 | 4 => 4 | 22 => 50 | 40 => 97 | n => n, fun | n => n⟩
theorem Try.lays2_25 : Go.Proofs.Lays2.n25 Try.prog Try.lays2_25_ren := {
  mixed := by kernel_rfl
  f25 := Try.func66.trans (congrArg some (by kernel_rfl))
  f31 := Try.func74.trans (congrArg some (by kernel_rfl))
  f32 := Try.func75.trans (congrArg some (by kernel_rfl))
  f37 := Try.func78.trans (congrArg some (by kernel_rfl))
  t0 := Try.underlying0
  a0 := Try.isAgg0
  z0 := Try.sizeOf0
  v0 := Try.zeroValue0
  t3 := Try.underlying3
  a3 := Try.isAgg3
  z3 := Try.sizeOf3
  v3 := Try.zeroValue3
  t4 := Try.underlying4
  a4 := Try.isAgg4
  z4 := Try.sizeOf4
  v4 := Try.zeroValue4
  t22 := Try.underlying50
  a22 := Try.isAgg50
  z22 := Try.sizeOf50
  v22 := Try.zeroValue50
  t40 := Try.underlying97
  a40 := Try.isAgg97
  z40 := Try.sizeOf97
  v40 := Try.zeroValue97 }
def Try.lays2_21_ren : Go.Shelf.Ren := ⟨fun | 21 => 67 | 27 => 76 | 28 => 77 | 35 => 79 | 39 => 80 | n => n, fun | 0 => 0 | 3 => 3 | 4 => 4 | 22 => 50 | n => n, fun | n => n⟩
theorem Try.lays2_21 : Go.Proofs.Lays2.n21 Try.prog Try.lays2_21_ren := {
  mixed := by kernel_rfl
  f21 := Try.func67.trans (congrArg some (by kernel_rfl))
  f27 := Try.func76.trans (congrArg some (by kernel_rfl))
  f28 := Try.func77.trans (congrArg some (by kernel_rfl))
  f35 := Try.func79.trans (congrArg some (by kernel_rfl))
  f39 := Try.func80.trans (congrArg some (by kernel_rfl))
  t0 := Try.underlying0
  a0 := Try.isAgg0
  z0 := Try.sizeOf0
  v0 := Try.zeroValue0
  t3 := Try.underlying3
  a3 := Try.isAgg3
  z3 := Try.sizeOf3
  v3 := Try.zeroValue3
  t4 := Try.underlying4
  a4 := Try.isAgg4
  z4 := Try.sizeOf4
  v4 := Try.zeroValue4
  t22 := Try.underlying50
  a22 := Try.isAgg50
  z22 := Try.sizeOf50
  v22 := Try.zeroValue50
  i3 := by kernel_rfl }
end Go.Proofs
