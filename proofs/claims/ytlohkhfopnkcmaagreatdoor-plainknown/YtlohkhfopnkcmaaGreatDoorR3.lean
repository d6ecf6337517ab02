/- Rows of what sources tell, run: part 3. -/
import Derived.Test.YtlohkhfopnkcmaaGreatDoorTab

namespace Go.Proofs.YtlohkhfopnkcmaaGreatDoor
open Go Go.Ev
theorem runs3 : tabAll (ev Tryz.prog X2 100000) 4 objs [row3] = .ok := by kernel_rfl
theorem runs11 : tabAll (ev Tryz.prog X2 100000) 4 objs [row11] = .ok := by kernel_rfl
theorem runs19 : tabAll (ev Tryz.prog X2 100000) 4 objs [row19] = .ok := by kernel_rfl
theorem runs27 : tabAll (ev Tryz.prog X2 100000) 4 objs [row27] = .ok := by kernel_rfl
theorem runs35 : tabAll (ev Tryz.prog X2 100000) 4 objs [row35] = .ok := by kernel_rfl
end Go.Proofs.YtlohkhfopnkcmaaGreatDoor
