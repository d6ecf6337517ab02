/- The searches' table, run: part 3. -/
import Derived.Test.YtlohkhfopnkcmaaGreatDoorTab

namespace Go.Proofs.YtlohkhfopnkcmaaGreatDoor
open Go Go.Ev

theorem idx_runs3 : idxAll (ev Tryz.prog X0 4000) 225 10 3 3 idxTab3 = .ok := by kernel_rfl
end Go.Proofs.YtlohkhfopnkcmaaGreatDoor
