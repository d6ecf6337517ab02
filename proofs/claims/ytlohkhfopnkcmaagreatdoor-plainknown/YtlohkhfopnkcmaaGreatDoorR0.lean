/- Rows of what sources tell, run: part 0. -/
import Derived.Test.YtlohkhfopnkcmaaGreatDoorTab

namespace Go.Proofs.YtlohkhfopnkcmaaGreatDoor
open Go Go.Ev
theorem runs0 : tabAll (ev Tryz.prog X2 100000) 4 objs [row0] = .ok := by kernel_rfl
theorem runs8 : tabAll (ev Tryz.prog X2 100000) 4 objs [row8] = .ok := by kernel_rfl
theorem runs16 : tabAll (ev Tryz.prog X2 100000) 4 objs [row16] = .ok := by kernel_rfl
theorem runs24 : tabAll (ev Tryz.prog X2 100000) 4 objs [row24] = .ok := by kernel_rfl
theorem runs32 : tabAll (ev Tryz.prog X2 100000) 4 objs [row32] = .ok := by kernel_rfl
theorem runs40 : tabAll (ev Tryz.prog X2 100000) 4 objs [row40] = .ok := by kernel_rfl
end Go.Proofs.YtlohkhfopnkcmaaGreatDoor
