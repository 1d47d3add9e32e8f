/- maps.Clone at the map of the cache: the table of numbers that the kit's contract is laid by. -/
import Derived.Shelf.SlMaps.Clone
import Derived.Test.YtfdpmgddlaamcaaOwn3
import Derived.Test.YtfdpmgddlaamcaaProg
namespace Go.Proofs.YtfdpmgddlaamcaaV
open Go Go.Proofs Go.Shelf
def cloneM_ren : Go.Shelf.Ren := ⟨fun | 5 => 59 | 7 => 104 | n => n, fun | 23 => 44 | 25 => 104 | 3 => 3 | 4 => 4 | 20 => 20 | n => n, fun n => n⟩
theorem cloneM : SlLaysW.n5 Try.prog cloneM_ren := {
  mixed := by kernel_rfl,
  f5 := ⟨Try.f59.name, by decide, Try.func59.trans (congrArg some (by kernel_rfl))⟩,
  f7 := Try.func104.trans (congrArg some (by kernel_rfl)),
  t4 := Try.underlying4,
  a4 := Try.isAgg4,
  z4 := Try.sizeOf4,
  v4 := Try.zeroValue4,
  t20 := Try.underlying20,
  a20 := Try.isAgg20,
  z20 := Try.sizeOf20,
  v20 := Try.zeroValue20,
  t23 := Try.underlying44,
  a23 := Try.isAgg44,
  z23 := Try.sizeOf44,
  v23 := Try.zeroValue44 }
end Go.Proofs.YtfdpmgddlaamcaaV
