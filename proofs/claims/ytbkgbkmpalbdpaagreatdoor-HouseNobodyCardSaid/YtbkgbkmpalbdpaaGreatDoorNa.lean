/- Closed facts of the row HouseNobody, one by one (together they pass the kernel's memory): the first ten. -/
import Derived.Test.YtbkgbkmpalbdpaaGreatDoorRows
import Derived.Test.YtbkgbkmpalbdpaaGreatDoorCards
import Derived.SevenTiedAt
import Derived.JoinedOf
namespace Go.Proofs.YtbkgbkmpalbdpaaGreatDoor
open Go

set_option maxRecDepth 100000 in
theorem jf0 : Rows.houseNobodyRow.wf (OpenSpec.ofChange Rows.houseNobodySpec) = true := by kernel_rfl
set_option maxRecDepth 100000 in
theorem jf1 : laidOutB Tryz.pinned.checked.prog = true := by kernel_rfl
set_option maxRecDepth 100000 in
theorem jf2 : mapsRowed Tryz.pinned.checked.prog = true := by kernel_rfl
set_option maxRecDepth 100000 in
theorem jf3 : Tryz.f4.params.all (Program.readableRec Tryz.pinned.checked.prog ·) = true := by kernel_rfl
set_option maxRecDepth 100000 in
theorem jf4 : namedTie Tryz.pinned.checked.prog Rows.houseNobodyRow.named Rows.houseNobodySpec.vars = true := by kernel_rfl
set_option maxRecDepth 100000 in
theorem jf5 : (Rows.houseNobodyRow.stops == []) = true := by kernel_rfl
set_option maxRecDepth 100000 in
theorem jf6 : (Program.stops Tryz.pinned.checked.prog == []) = true := by kernel_rfl
set_option maxRecDepth 100000 in
theorem jf7 : (Rows.houseNobodyRow.knobs == []) = true := by kernel_rfl
set_option maxRecDepth 100000 in
theorem jf8 : (Program.stopKnobs Tryz.pinned.checked.prog == []) = true := by kernel_rfl
set_option maxRecDepth 100000 in
theorem jf9 : (Rows.houseNobodyRow.inPlace == Program.inPlace Tryz.pinned.checked.prog 4) = true := by kernel_rfl
end Go.Proofs.YtbkgbkmpalbdpaaGreatDoor
