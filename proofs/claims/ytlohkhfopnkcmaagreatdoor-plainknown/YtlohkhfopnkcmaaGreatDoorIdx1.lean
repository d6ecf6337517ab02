/- The searches' table, run: part 1. -/
import Derived.Test.YtlohkhfopnkcmaaGreatDoorTab

namespace Go.Proofs.YtlohkhfopnkcmaaGreatDoor
open Go Go.Ev

theorem idx_runs1 : idxAll (ev Tryz.prog X0 4000) 225 10 3 3 idxTab1 = .ok := by kernel_rfl
end Go.Proofs.YtlohkhfopnkcmaaGreatDoor
