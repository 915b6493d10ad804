/- Closed facts of the row HouseNobody, one by one (together they pass the kernel's memory): the others. -/
import Derived.Test.YtbkgbkmpalbdpaaGreatDoorRows
import Derived.Test.YtbkgbkmpalbdpaaGreatDoorCards
import Derived.SevenTiedAt
import Derived.JoinedOf
namespace Go.Proofs.YtbkgbkmpalbdpaaGreatDoor
open Go

set_option maxRecDepth 100000 in
theorem jf13 : (Rows.houseNobodyRow.maps == (Tryz.f4.params.toList ++ Rows.houseNobodySpec.plain.varTypes Tryz.pinned.checked.prog).any (Program.mapsRec Tryz.pinned.checked.prog ·)) = true := by kernel_rfl
set_option maxRecDepth 100000 in
theorem jf14 : (Rows.houseNobodyRow.ifaces == (Tryz.f4.params.toList ++ Rows.houseNobodySpec.plain.varTypes Tryz.pinned.checked.prog).any (Program.ifacesRec Tryz.pinned.checked.prog ·)) = true := by kernel_rfl
set_option maxRecDepth 100000 in
theorem jf15 : (Rows.houseNobodyRow.mapsOut == Program.mapsAmong Tryz.pinned.checked.prog Tryz.f4.resultTypes.toList) = true := by kernel_rfl
set_option maxRecDepth 100000 in
theorem jf16 : (Rows.houseNobodyRow.loops == (Tryz.f4.params.toList ++ Rows.houseNobodySpec.plain.varTypes Tryz.pinned.checked.prog).any (Program.loopsFrom Tryz.pinned.checked.prog ·)) = true := by kernel_rfl
set_option maxRecDepth 100000 in
theorem jf17 : (Rows.houseNobodyRow.wideKeys == (Tryz.f4.params.toList ++ Rows.houseNobodySpec.plain.varTypes Tryz.pinned.checked.prog ++ Tryz.f4.resultTypes.toList).any (Program.wideKeysFrom Tryz.pinned.checked.prog ·)) = true := by kernel_rfl
set_option maxRecDepth 100000 in
theorem jf18 : Rows.houseNobodySpec.vars.all (Program.varReadable Tryz.pinned.checked.prog ·) = true := by kernel_rfl
set_option maxRecDepth 100000 in
theorem jf19 : Tryz.f4.resultTypes.all (fun t => Program.readableRec Tryz.pinned.checked.prog t && decide (t < Tryz.pinned.checked.prog.types.size)) = true := by kernel_rfl
set_option maxRecDepth 100000 in
theorem jf20 : (Rows.houseNobodyRow.ifacesOut == Tryz.f4.resultTypes.toList.any (Program.ifacesRec Tryz.pinned.checked.prog ·)) = true := by kernel_rfl
set_option maxRecDepth 100000 in
theorem jf21 : (Rows.houseNobodyRow.loopsOut == Tryz.f4.resultTypes.toList.any (Program.loopsFrom Tryz.pinned.checked.prog ·)) = true := by kernel_rfl
set_option maxRecDepth 100000 in
theorem jf22 : (Rows.houseNobodyRow.plainKeys == Program.plainKeys Tryz.pinned.checked.prog) = true := by kernel_rfl
set_option maxRecDepth 100000 in
theorem jf23 : Rows.houseNobodyRow.shortTexts.isNone = true := by kernel_rfl
set_option maxRecDepth 100000 in
theorem jf24 : Program.stopsHeard Tryz.pinned.checked.prog = true := by kernel_rfl
set_option maxRecDepth 100000 in
theorem jf25 : Program.mayEnter Tryz.pinned.checked.prog = true := by kernel_rfl
set_option maxRecDepth 100000 in
theorem jf26 : (Rows.houseNobodyRow.lifted == Program.liftsFinal Tryz.pinned.checked.prog) = true := by kernel_rfl
set_option maxRecDepth 100000 in
theorem jf27 : (Program.make Tryz.pinned.checked.prog == some Rows.houseNobodyRow.make) = true := by kernel_rfl
set_option maxRecDepth 100000 in
theorem jf28 : (Rows.houseNobodyRow.kinds == (if Rows.houseNobodyRow.domain.isEmpty then [] else Tryz.f4.params.toList.map fun t => match Program.underlying Tryz.pinned.checked.prog t with | some (.int k) => some k | _ => none)) = true := by kernel_rfl
set_option maxRecDepth 100000 in
theorem jf29 : (Rows.houseNobodyRow.pinned == Rows.houseNobodyRow.pinnedBy) = true := by kernel_rfl
set_option maxRecDepth 100000 in
theorem jf30 : (Rows.houseNobodyRow.veiled == (Tryz.f4.params.toList ++ Rows.houseNobodySpec.plain.varTypes Tryz.pinned.checked.prog ++ Tryz.f4.resultTypes.toList).any (Program.veiledRec Tryz.pinned.checked.prog ·)) = true := by kernel_rfl
set_option maxRecDepth 100000 in
theorem jf31 : Rows.houseNobodyRow.veiledFits Tryz.pinned.checked.prog Tryz.f4.params.toList (Tryz.f4.params.toList ++ Rows.houseNobodySpec.plain.varTypes Tryz.pinned.checked.prog ++ Tryz.f4.resultTypes.toList) = true := by kernel_rfl
end Go.Proofs.YtbkgbkmpalbdpaaGreatDoor
