/- Layings of the library's contracts at this program's numbers (printed by the kit's tool for this claim). -/
import Derived.Shelf.SlMaps.Clone
import Derived.Ground.SlmcProg
import Derived.Test.YtebpepjlhanopaaRows
namespace Go.Proofs
open Go.Shelf
def Try.cloneR_ren : Go.Shelf.Ren := ⟨fun | 5 => 33 | 7 => 54 | n => n, fun | 23 => 52 | 25 => 28 | 3 => 2 | 4 => 4 | 20 => 20 | n => n, fun | n => n⟩
theorem Try.cloneR : Go.Proofs.SlLaysW.n5 Try.prog Try.cloneR_ren := {
  mixed := by kernel_rfl
  f5 := ⟨Try.f33.name, by decide, Try.func33.trans (congrArg some (by kernel_rfl))⟩
  f7 := Try.func54.trans (congrArg some (by kernel_rfl))
  t4 := Try.underlying4
  a4 := Try.isAgg4
  z4 := Try.sizeOf4
  v4 := Try.zeroValue4
  t20 := Try.underlying20
  a20 := Try.isAgg20
  z20 := Try.sizeOf20
  v20 := Try.zeroValue20
  t23 := Try.underlying52
  a23 := Try.isAgg52
  z23 := Try.sizeOf52
  v23 := Try.zeroValue52 }
end Go.Proofs
