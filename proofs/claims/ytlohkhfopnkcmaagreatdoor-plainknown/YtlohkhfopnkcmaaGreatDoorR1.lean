/- Rows of what sources tell, run: part 1. -/
import Derived.Test.YtlohkhfopnkcmaaGreatDoorTab

namespace Go.Proofs.YtlohkhfopnkcmaaGreatDoor
open Go Go.Ev
theorem runs1 : tabAll (ev Tryz.prog X2 100000) 4 objs [row1] = .ok := by kernel_rfl
theorem runs9 : tabAll (ev Tryz.prog X2 100000) 4 objs [row9] = .ok := by kernel_rfl
theorem runs17 : tabAll (ev Tryz.prog X2 100000) 4 objs [row17] = .ok := by kernel_rfl
theorem runs25 : tabAll (ev Tryz.prog X2 100000) 4 objs [row25] = .ok := by kernel_rfl
theorem runs33 : tabAll (ev Tryz.prog X2 100000) 4 objs [row33] = .ok := by kernel_rfl
theorem runs41 : tabAll (ev Tryz.prog X2 100000) 4 objs [row41] = .ok := by kernel_rfl
end Go.Proofs.YtlohkhfopnkcmaaGreatDoor
