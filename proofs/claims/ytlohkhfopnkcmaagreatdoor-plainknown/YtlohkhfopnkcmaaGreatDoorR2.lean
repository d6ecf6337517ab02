/- Rows of what sources tell, run: part 2. -/
import Derived.Test.YtlohkhfopnkcmaaGreatDoorTab

namespace Go.Proofs.YtlohkhfopnkcmaaGreatDoor
open Go Go.Ev
theorem runs2 : tabAll (ev Tryz.prog X2 100000) 4 objs [row2] = .ok := by kernel_rfl
theorem runs10 : tabAll (ev Tryz.prog X2 100000) 4 objs [row10] = .ok := by kernel_rfl
theorem runs18 : tabAll (ev Tryz.prog X2 100000) 4 objs [row18] = .ok := by kernel_rfl
theorem runs26 : tabAll (ev Tryz.prog X2 100000) 4 objs [row26] = .ok := by kernel_rfl
theorem runs34 : tabAll (ev Tryz.prog X2 100000) 4 objs [row34] = .ok := by kernel_rfl
end Go.Proofs.YtlohkhfopnkcmaaGreatDoor
