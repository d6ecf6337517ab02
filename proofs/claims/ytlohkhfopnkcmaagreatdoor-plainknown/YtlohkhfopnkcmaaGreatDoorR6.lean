/- Rows of what sources tell, run: part 6. -/
import Derived.Test.YtlohkhfopnkcmaaGreatDoorTab

namespace Go.Proofs.YtlohkhfopnkcmaaGreatDoor
open Go Go.Ev
theorem runs6 : tabAll (ev Tryz.prog X2 100000) 4 objs [row6] = .ok := by kernel_rfl
theorem runs14 : tabAll (ev Tryz.prog X2 100000) 4 objs [row14] = .ok := by kernel_rfl
theorem runs22 : tabAll (ev Tryz.prog X2 100000) 4 objs [row22] = .ok := by kernel_rfl
theorem runs30 : tabAll (ev Tryz.prog X2 100000) 4 objs [row30] = .ok := by kernel_rfl
theorem runs38 : tabAll (ev Tryz.prog X2 100000) 4 objs [row38] = .ok := by kernel_rfl
end Go.Proofs.YtlohkhfopnkcmaaGreatDoor
