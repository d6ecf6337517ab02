/- Rows of what sources tell, run: part 5. -/
import Derived.Test.YtlohkhfopnkcmaaGreatDoorTab

namespace Go.Proofs.YtlohkhfopnkcmaaGreatDoor
open Go Go.Ev
theorem runs5 : tabAll (ev Tryz.prog X2 100000) 4 objs [row5] = .ok := by kernel_rfl
theorem runs13 : tabAll (ev Tryz.prog X2 100000) 4 objs [row13] = .ok := by kernel_rfl
theorem runs21 : tabAll (ev Tryz.prog X2 100000) 4 objs [row21] = .ok := by kernel_rfl
theorem runs29 : tabAll (ev Tryz.prog X2 100000) 4 objs [row29] = .ok := by kernel_rfl
theorem runs37 : tabAll (ev Tryz.prog X2 100000) 4 objs [row37] = .ok := by kernel_rfl
end Go.Proofs.YtlohkhfopnkcmaaGreatDoor
