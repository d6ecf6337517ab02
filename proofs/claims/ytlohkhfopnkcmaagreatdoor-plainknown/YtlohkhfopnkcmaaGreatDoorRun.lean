/- The statement's function, run: what the sources tell stands in a table. -/
import Derived.Test.YtlohkhfopnkcmaaGreatDoorTab

namespace Go.Proofs.YtlohkhfopnkcmaaGreatDoor
open Go Go.Ev

def rowTab : List (List AV × AV) := [row0, row1, row2, row3, row4, row5, row6, row7, row8, row9, row10, row11, row12, row13, row14, row15, row16, row17, row18, row19, row20, row21, row22, row23, row24, row25, row26, row27, row28, row29, row30, row31, row32, row33, row34, row35, row36, row37, row38, row39, row40, row41]
noncomputable def X3 : FuncId → Option Hook := fun f => pick (Nat.beq f 4) (some (hTab objs rowTab)) (X2 f)
theorem top_runs : (ev Tryz.prog X3 100000).call 3 [] .no (stG objs) (chk (.bool true)) = .ok := by kernel_rfl
end Go.Proofs.YtlohkhfopnkcmaaGreatDoor
