/- Closed facts of the row HouseNobody, one by one (together they pass the kernel's memory): those of what the call reaches. -/
import Derived.Test.YtbkgbkmpalbdpaaGreatDoorRows
import Derived.Test.YtbkgbkmpalbdpaaGreatDoorCards
import Derived.SevenTiedAt
import Derived.JoinedOf
namespace Go.Proofs.YtbkgbkmpalbdpaaGreatDoor
open Go

set_option maxRecDepth 100000 in
theorem jf10 : (Rows.houseNobodyRow.unfollowed == Program.unfollowed Tryz.pinned.checked.prog 4) = true := by kernel_rfl
set_option maxRecDepth 100000 in
theorem jf11 : (Rows.houseNobodyRow.recurses == Program.recurses Tryz.pinned.checked.prog 4) = true := by kernel_rfl
set_option maxRecDepth 100000 in
theorem jf12 : (Rows.houseNobodyRow.named == Program.varsNamed Tryz.pinned.checked.prog 4) = true := by kernel_rfl
end Go.Proofs.YtbkgbkmpalbdpaaGreatDoor
