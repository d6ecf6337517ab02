/- Rows of what sources tell, run: part 7. -/
import Derived.Test.YtlohkhfopnkcmaaGreatDoorTab

namespace Go.Proofs.YtlohkhfopnkcmaaGreatDoor
open Go Go.Ev
theorem runs7 : tabAll (ev Tryz.prog X2 100000) 4 objs [row7] = .ok := by kernel_rfl
theorem runs15 : tabAll (ev Tryz.prog X2 100000) 4 objs [row15] = .ok := by kernel_rfl
theorem runs23 : tabAll (ev Tryz.prog X2 100000) 4 objs [row23] = .ok := by kernel_rfl
theorem runs31 : tabAll (ev Tryz.prog X2 100000) 4 objs [row31] = .ok := by kernel_rfl
theorem runs39 : tabAll (ev Tryz.prog X2 100000) 4 objs [row39] = .ok := by kernel_rfl
end Go.Proofs.YtlohkhfopnkcmaaGreatDoor
