import Derived.Test.YtbkgbkmpalbdpaaGreatDoorTa
import Derived.Deep.DeepLaidRun
namespace Go.Proofs.YtbkgbkmpalbdpaaGreatDoor
open Go
theorem tie_hn2 (os : _) (tape : _) : (DataW.laidRun Tryz.prog (varsWorld Tryz.prog 400 (varsId Tryz.prog) os tape).memory 8 (tieL.map (·.1))).map (fun x => nodupB (x.2.map MemPlace.codeOf)) = some true := by kernel_rfl
end Go.Proofs.YtbkgbkmpalbdpaaGreatDoor
