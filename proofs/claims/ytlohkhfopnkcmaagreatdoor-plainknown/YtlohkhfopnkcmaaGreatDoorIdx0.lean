/- The searches' table, run: part 0. -/
import Derived.Test.YtlohkhfopnkcmaaGreatDoorTab

namespace Go.Proofs.YtlohkhfopnkcmaaGreatDoor
open Go Go.Ev

theorem idx_runs0 : idxAll (ev Tryz.prog X0 4000) 225 10 3 3 idxTab0 = .ok := by kernel_rfl
end Go.Proofs.YtlohkhfopnkcmaaGreatDoor
