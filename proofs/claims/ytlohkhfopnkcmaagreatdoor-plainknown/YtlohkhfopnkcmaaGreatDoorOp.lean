/- The signs' table, run. -/
import Derived.Test.YtlohkhfopnkcmaaGreatDoorTab

namespace Go.Proofs.YtlohkhfopnkcmaaGreatDoor
open Go Go.Ev

theorem op_runs : tabAll (ev Tryz.prog X1 4000) 153 objsA opTab = .ok := by kernel_rfl
end Go.Proofs.YtlohkhfopnkcmaaGreatDoor
