import Derived.Test.YtbkgbkmpalbdpaaGreatDoorTa
namespace Go.Proofs.YtbkgbkmpalbdpaaGreatDoor
open Go
theorem tie_h1 (os : _) (tape : _) : (DataW.laidRun Tryz.prog (varsWorld Tryz.prog 400 (varsId Tryz.prog) os tape).memory 8 (tieL.map (·.1))).map (·.1) = some tieL := by kernel_rfl
end Go.Proofs.YtbkgbkmpalbdpaaGreatDoor
