import Derived.Test.YtbkgbkmpalbdpaaGreatDoorTa
import Derived.Deep.DeepLaidRun
namespace Go.Proofs.YtbkgbkmpalbdpaaGreatDoor
open Go
theorem tie_hr (os : _) (tape : _) : (DataW.laidRun Tryz.prog (varsWorld Tryz.prog 400 (varsId Tryz.prog) os tape).memory 8 (tieL.map (·.1))).map (fun x => laidRowsB Tryz.prog (varsWorld Tryz.prog 400 (varsId Tryz.prog) os tape).memory x.2) = some true := by kernel_rfl
end Go.Proofs.YtbkgbkmpalbdpaaGreatDoor
