/- Rows of what sources tell, run: part 4. -/
import Derived.Test.YtlohkhfopnkcmaaGreatDoorTab

namespace Go.Proofs.YtlohkhfopnkcmaaGreatDoor
open Go Go.Ev
theorem runs4 : tabAll (ev Tryz.prog X2 100000) 4 objs [row4] = .ok := by kernel_rfl
theorem runs12 : tabAll (ev Tryz.prog X2 100000) 4 objs [row12] = .ok := by kernel_rfl
theorem runs20 : tabAll (ev Tryz.prog X2 100000) 4 objs [row20] = .ok := by kernel_rfl
theorem runs28 : tabAll (ev Tryz.prog X2 100000) 4 objs [row28] = .ok := by kernel_rfl
theorem runs36 : tabAll (ev Tryz.prog X2 100000) 4 objs [row36] = .ok := by kernel_rfl
end Go.Proofs.YtlohkhfopnkcmaaGreatDoor
